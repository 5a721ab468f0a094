/- What the cards of rle use: a witness's world; the tables read from a row's condition. -/
import Derived.Test.YtlcjadgaommfmaaDoorCards
import Derived.Test.YtlcjadgaommfmaaDoorTie
import Derived.Test.YtlcjadgaommfmaaDoorCells
import Derived.Test.YtlcjadgaommfmaaDoorRuleArg
import Derived.Test.YtlcjadgaommfmaaDoorRlPut
import Derived.WalkKit
import Derived.ProofKit
import Derived.OpenShut
import Derived.ChangeMaps5
import Derived.LaidSub
import Derived.MakeChecks
import Derived.Deep.DeepHandedRow
import Derived.Deep.DeepWitnessRowRef
import Derived.Lib.LaidTab
import Derived.Shelf.Vars
namespace Go.Proofs.YtlcjadgaommfmaaDoor
open Go.ChangeShapes Go.WideShapes Go.ChangeAt Go.RowKit Go.ChangeMaps

theorem ownD : ownKnob Tryd.prog.godebug = none := by kernel_rfl
theorem laidOutD : laidOutB Tryd.prog = true := by kernel_rfl

theorem pow_data : (Rows.laid_internal_strconv_uint64pow10 : DataW Unit) = Lib.tabData .u64 Lib.pow10Tab := by rfl
abbrev laidRl : List (String × DataW Unit) := [("math/bits.deBruijn32tab", Rows.laid_math_bits_deBruijn32tab), ("math/bits.deBruijn64tab", Rows.laid_math_bits_deBruijn64tab), ("internal/strconv.uint64pow10", Rows.laid_internal_strconv_uint64pow10)]
theorem max_cell {W : World} (h : W.ShapedOpen Tryd.prog) : ∃ m, W.cell? ⟨0, 0, none⟩ = some (.int .i64 m) :=
  Go.Proofs.cell_of_shapedOpen_int (zero := #[.int .i64 0]) (t := 3) h (of_decide_eq_true (by kernel_rfl)) (by kernel_rfl) rfl (by kernel_rfl) (by kernel_rfl) Tryd.underlying3
theorem ground_of_laid {W : World} (hsh : W.ShapedOpen Tryd.prog) (h : laidMetH Tryd.prog laidRl W) : RlG W.heap.size W := by
  rw [Go.MakeChecks.laidMetH_plain Tryd.prog laidRl W (by kernel_rfl)] at h
  have h2 := h.filter (fun x => x.1 == "internal/strconv.uint64pow10")
  have e : laidRl.filter (fun x => x.1 == "internal/strconv.uint64pow10") = [("internal/strconv.uint64pow10", Rows.laid_internal_strconv_uint64pow10)] := by rfl
  rw [e, pow_data] at h2
  have hp := Lib.tabIs_of_head (P := Tryd.prog) (g := 1) Tryd.globalPow (show (Tryd.prog.globals[1]?).map (·.type) = some 118 by kernel_rfl) Tryd.underlying118 Tryd.underlying102 (by kernel_rfl) (by kernel_rfl) h2
  have hc := hp.cell Tryd.globalPow 0 (by decide)
  obtain ⟨m, hm⟩ := max_cell hsh
  exact ⟨hp, World.block_lt_of_cell? W _ hc, ⟨m, hm⟩, World.block_lt_of_cell? W _ hm⟩

/-- A WORLD FOR THE WITNESS: the settled one, the tables holding what the row lists. -/
def rlFlat0 : DataW Unit → List Value
  | .lit (.int k z) => [.int k z]
  | .agg l => l.flatMap fun
    | .lit (.int k z) => [.int k z]
    | _ => []
  | _ => []
def rlFlat1 : DataW Unit → Array Value
  | .agg l => (l.flatMap rlFlat0).toArray
  | _ => #[]
def rlPut (cs : Array Value) : Obj → Obj
  | .cells _ t frozen => .cells cs t frozen
  | o => o
noncomputable def rlWorld (os : Os) : World :=
  let w0 := World.holding Tryd.prog os ⟨#[], #[], []⟩
  { w0 with heap := ((w0.heap.modify 2 (rlPut (rlFlat1 Rows.laid_math_bits_deBruijn32tab))).modify 3 (rlPut (rlFlat1 Rows.laid_math_bits_deBruijn64tab))).modify 1 (rlPut (rlFlat1 Rows.laid_internal_strconv_uint64pow10)) }
end Go.Proofs.YtlcjadgaommfmaaDoor
