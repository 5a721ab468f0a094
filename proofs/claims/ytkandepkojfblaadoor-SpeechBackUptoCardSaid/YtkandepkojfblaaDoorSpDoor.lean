/- What the cards of speech use: a witness's world; the tables read from a row's condition. -/
import Derived.Test.YtkandepkojfblaaDoorCards
import Derived.Test.YtkandepkojfblaaDoorTie
import Derived.Test.YtkandepkojfblaaDoorCells
import Derived.Test.YtkandepkojfblaaDoorSpLaw
import Derived.WalkKit
import Derived.ProofKit
import Derived.OpenShut
import Derived.ChangeMaps5
import Derived.LaidSub
import Derived.MakeChecks
import Derived.Deep.DeepHandedRow
import Derived.Deep.DeepWitnessRowRef
import Derived.Lib.LaidTab
namespace Go.Proofs.YtkandepkojfblaaDoor
open Go.ChangeShapes Go.WideShapes Go.ChangeAt Go.RowKit Go.ChangeMaps

theorem ownD : ownKnob Tryd.prog.godebug = none := by kernel_rfl
theorem laidOutD : laidOutB Tryd.prog = true := by kernel_rfl

/-- A table of texts as a row lists it. -/
def strData {H : Type} (ss : List (List UInt8)) : DataW H := .agg (ss.map fun s => .lit (.string s))
theorem cells_of_strs {H : Type} {enc : TypeId × Value → H} {P : Program} {w : World} {base : Nat} {sp : Nat → Bool} {held : Bool} {fuel : Nat} {t e : TypeId} {n : Nat} {cs : List Value} {ss : List (List UInt8)} {p : List MemPlace}
    (ht : P.underlying t = some (.array n e)) (he : P.underlying e = some .string) (hce : P.cellsOf e = 1) (hct : P.cellsOf t = n)
    (h : DataW.trod enc P w base sp held fuel t cs = some (strData ss, p)) : cs = ss.map fun s => Value.string (str s) := by
  cases fuel with
  | zero => simp [DataW.trod] at h
  | succ fuel =>
    simp only [DataW.trod, ht, hce, hct, Nat.mul_one] at h
    split at h
    · rename_i hl
      obtain ⟨xs, hm, hx⟩ := Option.map_eq_some_iff.1 h
      have hxs : xs.map (·.1) = ss.map fun s => (DataW.lit (.string s) : DataW H) := by
        have := congrArg Prod.fst hx
        simpa [strData] using this
      have hxl : xs.length = n := by simpa using Lib.mapM_length hm
      have hzl : ss.length = n := by
        have := congrArg List.length hxs
        simp at this
        omega
      apply List.ext_getElem?
      intro i
      by_cases hi : i < n
      · obtain ⟨b, hb, hf⟩ := Lib.mapM_at hm i i (by simp [hi])
        obtain ⟨s, hc, rfl, _⟩ := DataW.trod_string he hf
        have h1 : cs[i]? = some (.string s) := by
          have := congrArg (·[0]?) hc
          simpa [List.getElem?_take, List.getElem?_drop] using this
        have h2 : (xs.map (·.1))[i]? = some (DataW.lit (.string s.data.toList) : DataW H) := by simp [hb]
        rw [hxs] at h2
        simp only [List.getElem?_map, Option.map_eq_some_iff, DataW.lit.injEq, Lit.string.injEq] at h2
        obtain ⟨s', hs', he'⟩ := h2
        subst he'
        simp [h1, hs', str]
      · rw [List.getElem?_eq_none (by omega), List.getElem?_eq_none (by simp; omega)]
    · cases h
theorem strs_of_head {P : Program} {W : World} {name : String} {ss : List (List UInt8)} {rest : List (String × DataW Unit)} {g : Nat} {t e : TypeId} {n : Nat}
    (hg : P.globalNamed name = some g) (hty : (P.globals[g]?).map (·.type) = some t) (ht : P.underlying t = some (.array n e)) (he : P.underlying e = some .string) (hce : P.cellsOf e = 1) (hct : P.cellsOf t = n)
    (h : laidMet P ((name, strData ss) :: rest) W) (i : Nat) (s : List UInt8) (hi : ss[i]? = some s) : W.cell? ⟨g, i, none⟩ = some (.string (str s)) := by
  obtain ⟨ps, ⟨g', t', cs, fuel, p, q, hg', ht', hvar, hd, _, _⟩, _⟩ := h
  obtain rfl := Option.some.inj (hg.symm.trans hg')
  obtain rfl := Option.some.inj (hty.symm.trans ht')
  have hcs := cells_of_strs ht he hce hct hd
  rw [World.var?_cell hg hvar i, ← Array.getElem?_toList, hcs]
  simp [hi]

def verbsL : List (List UInt8) := [[], [110, 101, 119], [115, 101, 116], [103, 101, 116], [115, 116, 101, 112], [99, 111, 117, 110, 116], [98, 111, 120], [100, 114, 111, 112], [99, 111, 112, 121], [108, 101, 97, 115, 101], [99, 108, 101, 97, 110]]
theorem verbs_data : (Rows.laid_lifelodge_speech_verbs : DataW Unit) = strData verbsL := by rfl
theorem pow_data : (Rows.laid_internal_strconv_uint64pow10 : DataW Unit) = Lib.tabData .u64 Lib.pow10Tab := by rfl
theorem verbs_nth : ∀ k : Fin 11, verbsL[k.val]? = some (verbL (k.val : Int)) := by decide
abbrev laidSp : List (String × DataW Unit) := [("math/bits.deBruijn32tab", Rows.laid_math_bits_deBruijn32tab), ("math/bits.deBruijn64tab", Rows.laid_math_bits_deBruijn64tab), ("internal/strconv.uint64pow10", Rows.laid_internal_strconv_uint64pow10), ("unicode/utf8.acceptRanges", Rows.laid_unicode_utf8_acceptRanges), ("strconv.ErrRange", Rows.laid_strconv_ErrRange), ("strconv.ErrSyntax", Rows.laid_strconv_ErrSyntax), ("lifelodge/speech.verbs", Rows.laid_lifelodge_speech_verbs), ("unicode/utf8.first", Rows.laid_unicode_utf8_first)]
theorem ground_of_laid {W : World} (hsh : W.ShapedOpen Tryd.prog) (h : laidMetH Tryd.prog laidSp W) : SpG W := by
  rw [Go.MakeChecks.laidMetH_plain Tryd.prog laidSp W (by kernel_rfl)] at h
  have h2 := h.filter (fun x => x.1 == "internal/strconv.uint64pow10")
  have e : laidSp.filter (fun x => x.1 == "internal/strconv.uint64pow10") = [("internal/strconv.uint64pow10", Rows.laid_internal_strconv_uint64pow10)] := by rfl
  rw [e, pow_data] at h2
  have hp := Lib.tabIs_of_head (P := Tryd.prog) (g := 3) Tryd.globalPow (show (Tryd.prog.globals[3]?).map (·.type) = some 114 by kernel_rfl) Tryd.underlying114 Tryd.underlying99 (by kernel_rfl) (by kernel_rfl) h2
  have h3 := h.filter (fun x => x.1 == "lifelodge/speech.verbs")
  have e3 : laidSp.filter (fun x => x.1 == "lifelodge/speech.verbs") = [("lifelodge/speech.verbs", Rows.laid_lifelodge_speech_verbs)] := by rfl
  rw [e3, verbs_data] at h3
  have hc := hp.cell Tryd.globalPow 0 (by decide)
  exact ⟨Tryd.laysM143.s1_3 W hsh, hp, World.block_lt_of_cell? W _ hc, fun k hk => strs_of_head (P := Tryd.prog) (g := 0) (show Tryd.prog.globalNamed "lifelodge/speech.verbs" = some 0 by kernel_rfl) (show (Tryd.prog.globals[0]?).map (·.type) = some 54 by kernel_rfl) Tryd.underlying54 Tryd.underlying9 (by kernel_rfl) (by kernel_rfl) h3 k _ (verbs_nth ⟨k, hk⟩)⟩

/-- A WORLD FOR THE WITNESS: the settled one, the tables holding what the row lists, the two errors as their initialisers lay them. -/
def spFlat0 : DataW Unit → List Value
  | .lit (.int k z) => [.int k z]
  | .lit (.string s) => [.string (str s)]
  | .agg l => l.flatMap fun
    | .lit (.int k z) => [.int k z]
    | _ => []
  | _ => []
def spFlat1 : DataW Unit → Array Value
  | .agg l => (l.flatMap spFlat0).toArray
  | _ => #[]
def spPut (cs : Array Value) : Obj → Obj
  | .cells _ t frozen => .cells cs t frozen
  | o => o
noncomputable def spLow : Nat := (World.holding Tryd.prog default ⟨#[], #[], []⟩).heap.size
noncomputable def spWorld (os : Os) : World :=
  let w0 := World.holding Tryd.prog os ⟨#[.cells #[.string ⟨#[118, 97, 108, 117, 101, 32, 111, 117, 116, 32, 111, 102, 32, 114, 97, 110, 103, 101]⟩] 138, .cells #[.string ⟨#[105, 110, 118, 97, 108, 105, 100, 32, 115, 121, 110, 116, 97, 120]⟩] 138], #[], []⟩
  { w0 with heap := (((((((w0.heap.modify 7 (spPut (spFlat1 Rows.laid_math_bits_deBruijn32tab))).modify 8 (spPut (spFlat1 Rows.laid_math_bits_deBruijn64tab))).modify 3 (spPut (spFlat1 Rows.laid_internal_strconv_uint64pow10))).modify 2 (spPut (spFlat1 Rows.laid_unicode_utf8_acceptRanges))).modify 6 (spPut #[.iface 136 (.pointer (some ⟨spLow, 0, none⟩))])).modify 5 (spPut #[.iface 136 (.pointer (some ⟨spLow + 1, 0, none⟩))])).modify 0 (spPut (spFlat1 Rows.laid_lifelodge_speech_verbs))).modify 1 (spPut (spFlat1 Rows.laid_unicode_utf8_first)) }
end Go.Proofs.YtkandepkojfblaaDoor
