/- A cell as an argument. · quad: Count's closure. · quad: Count. · QuadOne: what the loops keep, in plain words. · ArenaUndoes, ArenaKeeps: the plain laws. · QuadEras: the plain law. · QuadShared: the walk. · The statements' own helpers: cells, alive. · QuadEras: the walk. · lifelodgekeep.QuadEras: whatever its arguments: it returns true, and its arguments read behind the call as they read before. -/
import Derived.Laws.EntriesVeiled
import Derived.Test.YtdbhddkkcchmmaaZ5
import Derived.Test.YtdbhddkkcchmmaaZ11
import Derived.Test.YtdbhddkkcchmmaaZ12
import Derived.Test.YtdbhddkkcchmmaaZ9
import Derived.Test.YtdbhddkkcchmmaaZ6
import Derived.Test.YtdbhddkkcchmmaaZ1

namespace Go.Proofs.Ytdbhddkkcchmmaa
open Go.RowKit Go.ChangeShapes Go.WideShapes

set_option maxRecDepth 100000 in
/-- A cell as an argument. -/
theorem cell_of {H : Type} {enc : TypeId × Value → H} {W : World} {base : Nat} {v : Value} {d : DataW H} {p : List MemPlace}
    (hv : Value.okWide Try.prog W .any base 35 v) (h : DataW.Trod enc Try.prog W 0 (fun _ => true) true 35 v d p) :
    ∃ b l : Int, v = .agg #[.int .i64 b, .int .i64 l] ∧ (-9223372036854775808 ≤ b ∧ b ≤ 9223372036854775807) ∧ (-9223372036854775808 ≤ l ∧ l ≤ 9223372036854775807) := by
  obtain ⟨f0, f1, hu, o0, o1, t0, t1⟩ := Try.cellS
  obtain ⟨cs, rfl, hsz⟩ := okWide_struct hu hv
  rw [Try.cellsCell] at hsz
  obtain ⟨fuel, hf⟩ := h
  obtain ⟨ys, n', _, hy, _, hyl, hfs⟩ := DataW.trod_struct hu hf
  have hcs : ∃ x y, cs = #[x, y] := by
    obtain ⟨l⟩ := cs
    match l, hsz with
    | [x, y], _ => exact ⟨x, y, rfl⟩
  obtain ⟨x, y, rfl⟩ := hcs
  match ys, hyl with
  | [y0, y1], _ =>
    have g0 := hfs 0 f0 rfl
    have g1 := hfs 1 f1 rfl
    rw [o0, t0, Try.cellsInt] at g0
    rw [o1, t1, Try.cellsInt] at g1
    simp only [Value.cells, List.drop_zero, List.take_succ_cons, List.take_zero, List.drop_succ_cons] at g0 g1
    obtain ⟨m0, e0, _, wf0⟩ := DataW.trod_int Try.underlying3 g0
    obtain ⟨m1, e1, _, wf1⟩ := DataW.trod_int Try.underlying3 g1
    simp at e0 e1
    subst e0 e1
    exact ⟨m0, m1, rfl, by simpa [Lit.wf, IntKind.min, IntKind.max, IntKind.signed, IntKind.bits] using wf0, by simpa [Lit.wf, IntKind.min, IntKind.max, IntKind.signed, IntKind.bits] using wf1⟩
end Go.Proofs.Ytdbhddkkcchmmaa

namespace Go.Proofs.Ytdbhddkkcchmmaa
open Go.RowKit

/-- Count's own blocks: the map of counts; the cells of many, w and count, and their types. -/
structure CB where
  nb : Nat
  mc : Nat
  wc : Nat
  cb : Nat
  y1 : TypeId
  y2 : TypeId
  y3 : TypeId
/-- The closure in its own cell. -/
def cntV (B : CB) : Value := .func (.func 36) #[] #[.pointer (some ⟨B.mc, 0, none⟩), .pointer (some ⟨B.wc, 0, none⟩), .pointer (some ⟨B.cb, 0, none⟩)]
/-- What Count has: the walker's block, the map of counts, the closure's cells. -/
structure Ct (w : World) (wb mb : Nat) (B : CB) (p : Nat) (R : ArR) (S : ArS) (A : Nat → Abs) (t : Nat) (K : List Int) (m : Int → Int) : Prop where
  hd : Hd w wb WT [.map (some mb)] p R S A t 0
  map : MapN w B.nb K m
  no : ¬ Own p R B.nb
  cm : Blk w B.mc B.y1 #[.map (some B.nb)]
  cw : Blk w B.wc B.y2 #[.pointer (some ⟨wb, 0, none⟩)]
  cc : Blk w B.cb B.y3 #[cntV B]
  nm : ¬ Own p R B.mc ∧ B.mc ≠ wb
  nw : ¬ Own p R B.wc ∧ B.wc ≠ wb
  nc : ¬ Own p R B.cb ∧ B.cb ≠ wb
  nodup : K.Nodup
  memo : ∀ x ∈ K, ∃ T, Has S A t x T ∧ m x = (cntT T : Int)
  zero : 0 ∈ K
  one : 1 ∈ K
section
variable {w w1 : World} {wb mb p t : Nat} {B : CB} {R R1 : ArR} {S S' : ArS} {A A' : Nat → Abs} {K : List Int} {m : Int → Int}
theorem Ct.ne (h : Ct w wb mb B p R S A t K m) : B.nb ≠ wb := h.map.ne h.hd.blk
theorem not_two {a wb p : Nat} {R : ArR} (h : ¬ Own p R a ∧ a ≠ wb) : ¬ (Own p R a ∨ a = wb) := fun ho => by
  rcases ho with ho | ho
  · exact h.1 ho
  · exact h.2 ho
theorem Ct.hand (h : Ct w wb mb B p R S A t K m) (hd : Hd w1 wb WT [.map (some mb)] p R S A t 0) (hs : StepH (fun b => b = wb) p R R w w1) : Ct w1 wb mb B p R S A t K m :=
  ⟨hd, h.map.mod hs.mod (not_two ⟨h.no, h.ne⟩), h.no, h.cm.mod hs.mod (not_two h.nm), h.cw.mod hs.mod (not_two h.nw), h.cc.mod hs.mod (not_two h.nc), h.nm, h.nw, h.nc, h.nodup, h.memo, h.zero, h.one⟩
theorem has_num (hi : Hd w wb WT [.map (some mb)] p R S A t 0) {x : Int} {T : Tree} (hT : Has S A t x T) : ∃ i : Nat, i < 200002 ∧ x = (i : Int) := by
  have hl := hi.inv.lenN
  cases T with
  | dead => have h0 := hT.1; simp only [Den] at h0; exact ⟨0, by omega, h0⟩
  | alive => have h0 := hT.1; simp only [Den] at h0; exact ⟨1, by omega, h0⟩
  | node a b c d =>
    have h0 := hT.1
    simp only [Den] at h0
    obtain ⟨i, e, rfl, h3, _⟩ := h0
    have := (List.getElem?_eq_some_iff.1 h3).1
    exact ⟨i, by omega, rfl⟩
theorem Ct.few (h : Ct w wb mb B p R S A t K m) : K.length < maxLen := by
  have : K.length ≤ ((List.range 200002).map fun i : Nat => (i : Int)).length := List.Nodup.length_le_of_subset h.nodup fun x hx => by
    obtain ⟨T, hT, _⟩ := h.memo x hx
    obtain ⟨i, h1, rfl⟩ := has_num h.hd hT
    exact List.mem_map.2 ⟨i, List.mem_range.2 h1, rfl⟩
  rw [List.length_map, List.length_range] at this
  unfold maxLen; omega
/-- What is counted is written down. -/
theorem Ct.put (h : Ct w wb mb B p R S A t K m) {x : Int} {T : Tree} (hT : Has S A t x T) (hv : cntT T ≤ 1152921504606846976) {v : Int} (hvv : v = (cntT T : Int)) :
    ∃ w', (Instr.mapUpdate 72 (.map (some B.nb)) (.int .i64 x) (.int .i64 v)).run Try.prog w = .ok () w' ∧ Ct w' wb mb B p R S A t (if x ∈ K then K else x :: K) (fun y => if y = x then v else m y) ∧ StepH (WX wb B.nb) p R R w w' := by
  obtain ⟨w', h3, h4, h5⟩ := h.map.put (x := x) (v := v) (hT.1.i64 h.hd.inv) h.few ⟨by omega, by omega⟩
  have hup : ∀ y, y ∈ K → y ∈ (if x ∈ K then K else x :: K) := fun y hy => by
    split
    · exact hy
    · exact List.mem_cons_of_mem _ hy
  refine ⟨w', h3, ⟨h.hd.keep h5 (fun b hb e => h.no (e ▸ hb)) (fun e => h.ne e.symm), h4, h.no, h.cm.mod h5 (fun e => h.map.ne h.cm e.symm), h.cw.mod h5 (fun e => h.map.ne h.cw e.symm), h.cc.mod h5 (fun e => h.map.ne h.cc e.symm), h.nm, h.nw, h.nc, ?_, fun y hy => ?_, hup _ h.zero, hup _ h.one⟩, h5.mono fun b _ e => .inr (.inr e), fun _ h => .inl h⟩
  · split
    · exact h.nodup
    · exact List.nodup_cons.2 ⟨by assumption, h.nodup⟩
  by_cases e : y = x
  · subst e
    exact ⟨T, hT, by simp only [if_true]; exact hvv⟩
  · obtain ⟨T', g2, g3⟩ := h.memo y (by
      split at hy
      · exact hy
      · rcases List.mem_cons.1 hy with q | q
        · exact absurd q e
        · exact q)
    exact ⟨T', g2, by simp only [e, if_false]; exact g3⟩
end
def CtPost (w : World) (wb mb : Nat) (B : CB) (p : Nat) (R : ArR) (S : ArS) (A : Nat → Abs) (t : Nat) (T : Tree) (e : Ending) (w' : World) : Prop :=
  ∃ (K : List Int) (m : Int → Int), e = .returned (.int .i64 (cntT T : Int)) ∧ Ct w' wb mb B p R S A t K m ∧ StepH (WX wb B.nb) p R R w w'
def CtOk (T : Tree) : Prop := ∀ (w : World) (wb mb : Nat) (B : CB) (p : Nat) (R : ArR) (S : ArS) (A : Nat → Abs) (t : Nat) (K : List Int) (m : Int → Int), Ct w wb mb B p R S A t K m → cntT T ≤ 1152921504606846976 → ∀ id : Int, Has S A t id T →
  Calls Try.prog 36 #[.int .i64 id, .pointer (some ⟨B.mc, 0, none⟩), .pointer (some ⟨B.wc, 0, none⟩), .pointer (some ⟨B.cb, 0, none⟩)] w (CtPost w wb mb B p R S A t T)
theorem enters_cnt : ∀ args w, (callFunc 36 args).run Try.prog w = .ok (.enter 36 args) w := enters_of Try.func36 (by kernel_rfl) rfl
/-- Counted already. -/
theorem cnt_known {T : Tree} (w : World) (wb mb : Nat) (B : CB) (p : Nat) (R : ArR) (S : ArS) (A : Nat → Abs) (t : Nat) (K : List Int) (m : Int → Int) (h : Ct w wb mb B p R S A t K m) (id : Int) (hT : Has S A t id T) (hK : id ∈ K) :
    Calls Try.prog 36 #[.int .i64 id, .pointer (some ⟨B.mc, 0, none⟩), .pointer (some ⟨B.wc, 0, none⟩), .pointer (some ⟨B.cb, 0, none⟩)] w (CtPost w wb mb B p R S A t T) := by
  have H := Lib.hid h
  have d0 : w.cell? ⟨B.mc, 0, none⟩ = some (.map (some B.nb)) := h.cm.cellS rfl
  have d1 : w.cell? ⟨B.wc, 0, none⟩ = some (.pointer (some ⟨wb, 0, none⟩)) := h.cw.cellS rfl
  have hlk := h.map.look_ok (hT.1.i64 h.hd.inv)
  have hm : m id = (cntT T : Int) := by
    obtain ⟨T', g1, g2⟩ := h.memo id hK
    rw [g2, Den.fn h.hd.inv g1.1 hT.1]
  rw [hm, decide_eq_true hK] at hlk
  clear h hT hm hK
  go_enter Try.func36, Try.ntmps36
  go_wp2_with fail
  go_ret
  exact ⟨K, m, rfl, H.out, StepH.refl _ p R w⟩
/-- The sum of the first j of four. -/
def sumT (T : Nat → Tree) : Nat → Nat
  | 0 => 0
  | j + 1 => sumT T j + cntT (T j)
theorem sumT_four (T : Nat → Tree) : cntT (.node (T 0) (T 1) (T 2) (T 3)) = sumT T 4 := by simp [sumT, cntT]
theorem sumT_le (T : Nat → Tree) {j : Nat} (hj : j ≤ 4) : sumT T j ≤ sumT T 4 := by
  rcases (by omega : j = 0 ∨ j = 1 ∨ j = 2 ∨ j = 3 ∨ j = 4) with rfl | rfl | rfl | rfl | rfl <;> simp [sumT] <;> omega

set_option maxRecDepth 100000 in
set_option maxHeartbeats 3200000 in
theorem cnt_node (T : Nat → Tree) (ih : ∀ j, j < 4 → CtOk (T j)) : CtOk (.node (T 0) (T 1) (T 2) (T 3)) := by
  intro w wb mb B p R S A t K m h hc id hT
  by_cases hK : id ∈ K
  · exact cnt_known w wb mb B p R S A t K m h id hT hK
  · have H := Lib.hid h
    have HT := Lib.hid hT
    have HNK := Lib.hid hK
    have d0 : w.cell? ⟨B.mc, 0, none⟩ = some (.map (some B.nb)) := h.cm.cellS rfl
    have d1 : w.cell? ⟨B.wc, 0, none⟩ = some (.pointer (some ⟨wb, 0, none⟩)) := h.cw.cellS rfl
    have hlk := h.map.look_ok (hT.1.i64 h.hd.inv)
    rw [decide_eq_false hK] at hlk
    have HEN := enters_cnt
    have HKD := Lib.hid (hkids_any w wb WT [.map (some mb)] p R S A t 0 h.hd id _ _ _ _ (fun _ => hT))
    have HC : Hid (sumT T 4 ≤ 1152921504606846976) := by rw [sumT_four] at hc; exact hc
    clear h hT hK hc
    go_enter Try.func36, Try.ntmps36
    go_wp2_with fail
    (with_reducible refine HKD.out.mono ?_)
    rintro e w1 ⟨k0, k1, k2, k3, rfl, hkh, _, hd1, hs1⟩
    obtain ⟨g0, g1, g2, g3⟩ := hkh rfl
    have HQ : Hid (∀ j, j < 4 → Has S A t (qAt k0 k1 k2 k3 j) (T j)) := fun j hj => by
      rcases (by omega : j = 0 ∨ j = 1 ∨ j = 2 ∨ j = 3) with rfl | rfl | rfl | rfl <;> assumption
    have HW1 := Lib.hid (H.out.hand hd1 hs1)
    have HS1 : Hid (StepH (WX wb B.nb) p R R w w1) := hs1.wide fun b _ e => .inl e
    clear hkh hd1 hs1 g0 g1 g2 g3 HKD hlk
    go_wp2_with fail
    go_loopw [24, 8] (fun iv nv wx => ∃ (j : Nat) (K' : List Int) (m' : Int → Int), iv = .int .i64 j ∧ j ≤ 4 ∧ nv = .int .i64 (sumT T j : Int) ∧ Ct wx wb mb B p R S A t K' m' ∧ StepH (WX wb B.nb) p R R w wx) (fun iv _ _ => 4 - (intOf iv).toNat)
    case atStart => exact ⟨0, K, m, rfl, Nat.zero_le _, rfl, HW1.out, HS1.out⟩
    case round =>
      obtain ⟨j, K', m', rfl, hj, rfl, hW, hS⟩ := hrel
      have HW := Lib.hid hW
      have HS := Lib.hid hS
      clear hW hS
      by_cases hj4 : j < 4
      · have hq := fun w => idx4 k0 k1 k2 k3 j hj4 w
        have hs4 : sumT T j + cntT (T j) ≤ 1152921504606846976 := Nat.le_trans (sumT_le T (j := j + 1) hj4) HC.out
        have HI := Lib.hid (ih j hj4 wr wb mb B p R S A t K' m' HW.out (by omega) _ (HQ.out j hj4))
        have HJ4 := Lib.hid hj4
        have HSE : Hid (sumT T (j + 1) = sumT T j + cntT (T j)) := rfl
        have hlt : (j : Int) < 4 := by omega
        have hwi := wrap_nat' j (by unfold maxLen; omega)
        have d3 : wr.cell? ⟨B.cb, 0, none⟩ = some (.func (.func 36) #[] #[.pointer (some ⟨B.mc, 0, none⟩), .pointer (some ⟨B.wc, 0, none⟩), .pointer (some ⟨B.cb, 0, none⟩)]) := HW.out.cc.cellS rfl
        generalize hG : cntT (T j) = g at *
        generalize hU : sumT T j = u at *
        have HG := Lib.hid hG
        have HU := Lib.hid hU
        clear hG hU
        have hb1 : (u : Int) + g ≤ 1152921504606846976 := by omega
        clear hj4 hj hs4
        go_wp2_with fail
        (with_reducible refine HI.out.mono ?_)
        rintro e w3 ⟨K2, m2, rfl, hw3, hs3⟩
        rw [HG.out]
        have HW3 := Lib.hid hw3
        have HS3 := Lib.hid (HS.out.trans hs3)
        clear hw3 hs3 HI
        go_wp2_with fail
        go_roundw
        case rel => exact ⟨j + 1, K2, m2, by go_num, HJ4.out, by rw [HSE.out]; go_num, HW3.out, HS3.out⟩
        case measure => simp [intOf]; have := HJ4.out; omega
      · have hj5 : j = 4 := by omega
        subst hj5
        have HSF := Lib.hid (sumT_four T)
        obtain ⟨w4, hrun, hw4, hs4⟩ := HW.out.put HT.out (by rw [HSF.out]; exact HC.out) (v := (sumT T 4 : Int)) (by rw [HSF.out])
        have HW4 := Lib.hid hw4
        have HS4 := Lib.hid (HS.out.trans hs4)
        have d2 : wr.cell? ⟨B.mc, 0, none⟩ = some (.map (some B.nb)) := HW.out.cm.cellS rfl
        clear hj hj4 hw4 hs4 d0 d1
        go_wp2_with fail
        go_ret
        exact ⟨_, _, by rw [HSF.out]; rfl, HW4.out, HS4.out⟩
theorem cnt_any : ∀ T : Tree, CtOk T
  | .dead => fun w wb mb B p R S A t K m h _ id hT => cnt_known w wb mb B p R S A t K m h id hT (by have := hT.1; simp only [Den] at this; rw [this]; exact h.zero)
  | .alive => fun w wb mb B p R S A t K m h _ id hT => cnt_known w wb mb B p R S A t K m h id hT (by have := hT.1; simp only [Den] at this; rw [this]; exact h.one)
  | .node a b c d => by
    have h0 := cnt_any a
    have h1 := cnt_any b
    have h2 := cnt_any c
    have h3 := cnt_any d
    exact cnt_node (fun j => if j = 0 then a else if j = 1 then b else if j = 2 then c else d) fun j hj => by
      rcases (by omega : j = 0 ∨ j = 1 ∨ j = 2 ∨ j = 3) with rfl | rfl | rfl | rfl <;> assumption
end Go.Proofs.Ytdbhddkkcchmmaa

namespace Go.Proofs.Ytdbhddkkcchmmaa
open Go.RowKit

def CountP (w : World) (p : Nat) (R : ArR) (S : ArS) (A : Nat → Abs) (T : Tree) (e : Ending) (w' : World) : Prop :=
  e = .returned (.tuple #[.int .i64 (cntT T : Int), .int .i64 0]) ∧ Ar w' p R S A ∧ StepH NoX p R R w w'

/-- The map of counts, as it is made. -/
theorem lit_counts {w : World} {b : Nat} (h : MapN w b [] (fun _ => 0)) :
    ∃ wB wC, (Instr.mapUpdate 72 (.map (some b)) (.int .i64 0) (.int .i64 0)).run Try.prog w = .ok () wB ∧ (Instr.mapUpdate 72 (.map (some b)) (.int .i64 1) (.int .i64 1)).run Try.prog wB = .ok () wC ∧ Mod (fun q => q = b) w wC ∧ ∃ m, MapN wC b [1, 0] m ∧ m 0 = 0 ∧ m 1 = 1 := by
  obtain ⟨wB, r1, h1, m1⟩ := h.put (x := 0) (v := 0) ⟨by decide, by decide⟩ (by unfold maxLen; simp) ⟨by decide, by decide⟩
  rw [if_neg (by simp)] at h1
  obtain ⟨wC, r2, h2, m2⟩ := h1.put (x := 1) (v := 1) ⟨by decide, by decide⟩ (by unfold maxLen; simp) ⟨by decide, by decide⟩
  rw [if_neg (by simp)] at h2
  exact ⟨wB, wC, r1, r2, m1.trans m2 (fun _ _ e => e), _, h2, rfl, rfl⟩
/-- What Count has before the closure. -/
structure Cs (w : World) (wb mb : Nat) (nb mc wc : Nat) (p : Nat) (R : ArR) (S : ArS) (A : Nat → Abs) (t : Nat) (m : Int → Int) : Prop where
  hd : Hd w wb WT [.map (some mb)] p R S A t 0
  map : MapN w nb [1, 0] m
  no : ¬ Own p R nb
  cm : Blk w mc 72 #[.map (some nb)]
  cw : Blk w wc 70 #[.pointer (some ⟨wb, 0, none⟩)]
  nm : ¬ Own p R mc ∧ mc ≠ wb
  nw : ¬ Own p R wc ∧ wc ≠ wb
  m0 : m 0 = 0
  m1 : m 1 = 1
section
variable {w w1 wC : World} {wb mb nb mc wc p t : Nat} {R : ArR} {S : ArS} {A : Nat → Abs} {K : List Int} {m m' : Int → Int}
theorem cs_start (h : Wk w1 wb mb p R S A t 0 K m') (hm : Mod (fun q => q = w1.heap.size + 1) ((w1.alloc (.cells #[.pointer (some ⟨wb, 0, none⟩)] 70)).alloc (.map #[] 0)) wC) (hM : MapN wC (w1.heap.size + 1) [1, 0] m) (h0 : m 0 = 0) (h1 : m 1 = 1) :
    Cs (wC.alloc (.cells #[.map (some (w1.heap.size + 1))] 72)) wb mb (w1.heap.size + 1) wC.heap.size w1.heap.size p R S A t m := by
  have hlt := h.hd.blk.lt
  have hno : ∀ b, w1.heap.size ≤ b → ¬ Own p R b := fun b hb ho => by have := h.hd.arm.own_lt ho; omega
  have hsz := hm.size
  rw [World.size_alloc, World.size_alloc] at hsz
  have hB : Below w1.heap.size w1 ((w1.alloc (.cells #[.pointer (some ⟨wb, 0, none⟩)] 70)).alloc (.map #[] 0)) := ((Below.refl _ _).alloc (Nat.le_refl _) _).alloc (by simp) _
  have hC : Below wC.heap.size wC (wC.alloc (.cells #[.map (some (w1.heap.size + 1))] 72)) := (Below.refl _ _).alloc (Nat.le_refl _) _
  have hd1 := (h.hd.below hB).keep hm (fun b hb e => hno b (by omega) hb) (by omega)
  exact ⟨hd1.alloc _, hM.mod (Mod.of_below_all hC) (fun h => h), hno _ (by omega), Blk.new _ _ _, (((Blk.new w1 70 _).alloc _).mod hm (by omega)).alloc _, ⟨hno _ (by omega), by omega⟩, ⟨hno _ (by omega), by omega⟩, h0, h1⟩
theorem Cs.hand (h : Cs w wb mb nb mc wc p R S A t m) (hd : Hd w1 wb WT [.map (some mb)] p R S A t 0) (hs : StepH (fun b => b = wb) p R R w w1) : Cs w1 wb mb nb mc wc p R S A t m :=
  ⟨hd, h.map.mod hs.mod (not_two ⟨h.no, h.map.ne h.hd.blk⟩), h.no, h.cm.mod hs.mod (not_two h.nm), h.cw.mod hs.mod (not_two h.nw), h.nm, h.nw, h.m0, h.m1⟩
theorem Cs.ct (h : Cs w wb mb nb mc wc p R S A t m) (y : TypeId) : Ct (w.alloc (.cells #[cntV ⟨nb, mc, wc, w.heap.size, 72, 70, y⟩] y)) wb mb ⟨nb, mc, wc, w.heap.size, 72, 70, y⟩ p R S A t [1, 0] m := by
  have hlt := h.hd.blk.lt
  have hC : Below w.heap.size w (w.alloc (.cells #[cntV ⟨nb, mc, wc, w.heap.size, 72, 70, y⟩] y)) := (Below.refl _ _).alloc (Nat.le_refl _) _
  exact ⟨h.hd.alloc _, h.map.mod (Mod.of_below_all hC) (fun h => h), h.no, h.cm.alloc _, h.cw.alloc _, Blk.new _ _ _, h.nm, h.nw, ⟨fun ho => Nat.lt_irrefl _ (h.hd.arm.own_lt ho), by show w.heap.size ≠ wb; omega⟩, by decide, fun x hx => by
    simp at hx
    rcases hx with rfl | rfl
    · exact ⟨.alive, ⟨by simp only [Den], rfl⟩, by rw [h.m1]; rfl⟩
    · exact ⟨.dead, ⟨by simp only [Den], rfl⟩, by rw [h.m0]; rfl⟩, by simp, by simp⟩
end

set_option maxRecDepth 100000 in
set_option maxHeartbeats 3200000 in
theorem qcount_any (w : World) (p : Nat) (R : ArR) (S : ArS) (A : Nat → Abs) (h : Ar w p R S A) (t : Nat) (ht : t < 64) (T : Tree) (hc : cntT T ≤ 1152921504606846976) (root : Int) (hr : Has S A t root T) :
    Calls Try.prog 16 #[.pointer (some ⟨p, 0, none⟩), .int .i64 t, .int .i64 root] w (CountP w p R S A T) := by
  have HR := Lib.hid hr
  have HW := Lib.hid (walk_any w p R S A h t ht)
  have HC := Lib.hid hc
  have H := Lib.hid h
  have HEN := enters_cnt
  have hmm := @run_makeMap Try.prog
  clear h hr ht hc
  go_enter Try.func16, Try.ntmps16
  go_wp2_with fail
  (with_reducible refine HW.out.mono ?_)
  rintro e w1 ⟨wb, mb, rfl, hw1, hb1, hl1, hl2⟩
  have HW1 := Lib.hid hw1
  have HB1 := Lib.hid hb1
  have HL1 := Lib.hid (And.intro hl1 hl2)
  obtain ⟨wB, wC, r1, r2, hm, m, hM, hm0, hm1⟩ := lit_counts (w := (w1.alloc (.cells #[.pointer (some ⟨wb, 0, none⟩)] 70)).alloc (.map #[] 0)) (b := w1.heap.size + 1) (by
    have := MapN.made (w1.alloc (.cells #[.pointer (some ⟨wb, 0, none⟩)] 70))
    rw [World.size_alloc] at this; exact this)
  have hcs := cs_start hw1 hm hM hm0 hm1
  have HCS := Lib.hid hcs
  have HV := Lib.hid (hlevel_any _ wb WT [.map (some mb)] p R S A t 0 hcs.hd root T (fun _ => HR.out))
  have d1 := hcs.cw.cellS (i := 0) rfl
  have HST : Hid (∀ w2, StepH (fun b => b = wb) p R R (wC.alloc (.cells #[.map (some (w1.heap.size + 1))] 72)) w2 → StepH (fun b => w.heap.size ≤ b) p R R w w2) := fun w2 hs => by
    have h0 := hb1.size
    have s1 : StepH (fun b => w.heap.size ≤ b) p R R w w1 := StepH.of_below hb1
    have s2 := (s1.alloc (.cells #[.pointer (some ⟨wb, 0, none⟩)] 70)).alloc (.map #[] 0)
    have s3 : StepH (fun b => w.heap.size ≤ b) p R R ((w1.alloc (.cells #[.pointer (some ⟨wb, 0, none⟩)] 70)).alloc (.map #[] 0)) wC := ⟨hm.mono fun b _ e => .inr (by omega), fun _ h => .inl h⟩
    exact ((s2.trans s3).alloc _).trans (hs.wide fun b _ e => by subst e; exact hl1)
  clear hw1 hb1 hl1 hl2 HW hm hM hcs
  go_wp2_with fail
  (with_reducible refine HV.out.mono ?_)
  rintro e w2 ⟨lv, rfl, hlv, hd2, hs2⟩
  have hc2 := HCS.out.hand hd2 hs2
  have HC2 := Lib.hid hc2
  have c2 := hc2.hd.c2
  have d2 : w2.cell? ⟨w1.heap.size, 0, none⟩ = some (.pointer (some ⟨wb, 0, none⟩)) := hc2.cw.cellS (i := 0) rfl
  have HCT := Lib.hid (hc2.ct 32)
  have hcall := cnt_any T _ wb mb _ p R S A t _ m HCT.out HC.out root HR.out
  have HCALL := Lib.hid hcall
  have HS2 : Hid (StepH (fun b => w.heap.size ≤ b) p R R w w2) := HST.out w2 hs2
  clear hlv hd2 hs2 HV r1 r2 hc2 hcall d1
  unfold cntV at HCALL
  go_wp2_with fail
  (with_reducible refine HCALL.out.mono ?_)
  rintro e w3 ⟨K3, m3, rfl, hc3, hs3⟩
  have c2 := hc3.hd.c2
  have d2 : w3.cell? ⟨w1.heap.size, 0, none⟩ = some (.pointer (some ⟨wb, 0, none⟩)) := hc3.cw.cellS (i := 0) rfl
  have HA : Hid (Ar w3 p R S A) := hc3.hd.ar
  have HS3 : Hid (StepH NoX p R R w w3) := ((HS2.out.alloc _).trans (hs3.wide fun b _ e => (by
    have h1 := HL1.out
    have h2 := HB1.out.size
    rcases e with e | e
    · omega
    · have e2 : b = w1.heap.size + 1 := e
      show w.heap.size ≤ b
      omega))).wide fun b hb e => (by omega)
  have hcb : (cntT T : Int) ≤ 1152921504606846976 := by have := HC.out; omega
  clear hc3 hs3 HCALL
  generalize hN : (cntT T : Int) = n at hcb ⊢
  have HN := Lib.hid hN
  have hge : decide (4611686018427387904 ≤ n) = false := decide_eq_false (by omega)
  clear hN
  go_wp2_with fail
  go_returns
  exact ⟨by rw [HN.out]; rfl, HA.out, HS3.out⟩
end Go.Proofs.Ytdbhddkkcchmmaa

namespace Go.Proofs.Ytdbhddkkcchmmaa
open Go.RowKit

/-- Two lists of the same cells. -/
def SameL (L l : List (Int × Int)) : Prop := ∀ c, c ∈ L ↔ c ∈ l
/-- A slice of our own that no arena's work touches. -/
theorem Rd.step {w w' : World} {p : Nat} {R R' : ArR} {v : Value} {n : Nat} {xs : List Value} (h : Rd w w.heap.size 2 v n xs) (hno : ∀ b, sblk v = some b → ¬ Own p R b) (hlt : ∀ b, sblk v = some b → b < w.heap.size) (hs : StepH NoX p R R' w w') :
    Rd w' w'.heap.size 2 v n xs ∧ (∀ b, sblk v = some b → ¬ Own p R' b) ∧ ∀ b, sblk v = some b → b < w'.heap.size := by
  have hsz := hs.mod.size
  obtain ⟨h1, A, cap, rfl, h2, h3, h4⟩ := h
  refine ⟨⟨h1, A, cap, rfl, h2, h3, fun hn => ?_⟩, fun b hb => hs.not (hlt b hb) (hno b hb), fun b hb => Nat.lt_of_lt_of_le (hlt b hb) hsz⟩
  obtain ⟨b, off, rfl, hb, hc⟩ := h4 hn
  refine ⟨b, off, rfl, by omega, fun j u hj => (hs.mod.cell (a := ⟨b, off + j, none⟩) hb fun ho => ?_).trans (hc j u hj)⟩
  rcases ho with ho | ho
  · exact hno b rfl ho
  · exact ho
theorem rootT_congr {P Q : Int → Int → Bool} {k : Nat} (h : ∀ a b, inB (k + 1) (-2 ^ k) (-2 ^ k) a b → P a b = Q a b) : rootT P k = rootT Q k := treeOf_congr h
/-- A wrapped root of a list that it reaches. -/
theorem clip_reach {l : List (Int × Int)} {k : Nat} (h : Reach2 k l) : rootT (clipP (setOfL l) k) (k + 1) = rootT (setOfL l) (k + 1) := rootT_congr fun a b _ => by
  unfold clipP
  by_cases hm : (a, b) ∈ l
  · have h1 := inB_root.1 (h (a, b) hm)
    rw [decide_eq_true h1, Bool.and_true]
  · have : setOfL l a b = false := decide_eq_false hm
    rw [this, Bool.false_and]
theorem set_snoc (l : List (Int × Int)) (a b : Int) : setP (setOfL l) a b true = setOfL (l ++ [(a, b)]) := by
  funext c d
  unfold setP setOfL
  by_cases e : c = a ∧ d = b
  · rw [if_pos e]; obtain ⟨rfl, rfl⟩ := e; simp
  · rw [if_neg e, decide_eq_decide]
    simp only [List.mem_append, List.mem_singleton, Prod.mk.injEq]
    exact ⟨.inl, fun h => h.resolve_right e⟩
/-- i cells are set, one by one. -/
structure OneI (W w1 : World) (p : Nat) (root : Int) (T0 : Tree) (L : List (Int × Int)) (v : Value) (i κ : Nat) (r : Int) (S : ArS) (A : Nat → Abs) (R : ArR) (wx : World) : Prop where
  ar : Ar wx p R S A
  has : Has S A 1 r (rootT (setOfL (L.take i)) κ)
  reach : Reach2 κ (L.take i)
  one : 1 ≤ κ
  few : κ ≤ 20
  old : Has S A 1 root T0
  vs : ∃ V, Within S V ∧ V.length ≤ 6000 + 25 * κ + 25 * i
  room : S.room = 200000
  quota : S.quota 1 = 200000
  rd : Rd wx wx.heap.size 2 v L.length (flat L)
  no : ∀ b, sblk v = some b → ¬ Own p R b
  lt : ∀ b, sblk v = some b → b < wx.heap.size
  low : Below w1.heap.size w1 wx
  own : ∀ b, Own p R b → w1.heap.size ≤ b
section
variable {W w1 wx wy : World} {p : Nat} {root r x : Int} {T0 : Tree} {L : List (Int × Int)} {v : Value} {i κ : Nat} {S S' : ArS} {A A' : Nat → Abs} {R R' : ArR} {bad : Int}
theorem OneI.put_ok (h : OneI W w1 p root T0 L v i κ r S A R wx) (hi : i < 120) {c : Int × Int} (hx : -2 ^ κ ≤ c.1 ∧ c.1 < 2 ^ κ) (hy : -2 ^ κ ≤ c.2 ∧ c.2 < 2 ^ κ) (hm : Made 1 (nodes (rootT (setP (setOfL (L.take i)) c.1 c.2 true) κ)) S A 0 S' A' bad) :
    bad = 0 ∧ ∃ V, Within S' V ∧ V.length ≤ 6000 + 25 * κ + 25 * (i + 1) := by
  obtain ⟨V, hV, hl⟩ := h.vs
  have hpw : (2 : Int) ^ (κ + 1) = 2 ^ κ * 2 := Int.pow_succ 2 κ
  obtain ⟨V2, g1, g2⟩ := put_few (setOfL (L.take i)) true (κ + 1) (-2 ^ κ) (-2 ^ κ) (c.1 + 2 ^ κ) (c.2 + 2 ^ κ) ⟨by omega, by omega⟩ ⟨by omega, by omega⟩
  rw [rootT_set] at g2
  have hf := h.few
  have hro := h.room
  have hqu := h.quota
  obtain ⟨q1, q2, _⟩ := hm.enough (V ++ V2) (fun j y hd => List.mem_append_left _ (hV j y hd)) (fun y hy => by
    rcases g2 y hy with q | q
    · exact List.mem_append_left _ (h.ar.rel.have_in (by decide) hV y (h.ar.rel.nodes_has (by decide) h.has.2 y q))
    · exact List.mem_append_right _ q) (by rw [List.length_append]; omega) (by rw [List.length_append]; omega)
  exact ⟨q1, _, q2, by rw [List.length_append]; omega⟩
theorem OneI.wrap_ok (h : OneI W w1 p root T0 L v i κ r S A R wx) (hi : i < 120) (hm : Made 1 (wrapL (setOfL (L.take i)) κ) S A 0 S' A' bad) :
    bad = 0 ∧ ∃ V, Within S' V ∧ V.length ≤ 6000 + 25 * (κ + 1) + 25 * i := by
  obtain ⟨V, hV, hl⟩ := h.vs
  have hf := h.few
  have hro := h.room
  have hqu := h.quota
  have hwl := wrapL_len (setOfL (L.take i)) κ
  obtain ⟨q1, q2, _⟩ := hm.enough (V ++ wrapL (setOfL (L.take i)) κ) (fun j y hd => List.mem_append_left _ (hV j y hd)) (fun y hy => List.mem_append_right _ hy) (by rw [List.length_append]; omega) (by rw [List.length_append]; omega)
  exact ⟨q1, _, q2, by rw [List.length_append]; omega⟩
theorem OneI.next (h : OneI W w1 p root T0 L v i κ r S A R wx) (ht : St 1 S A S' A') (ha : Ar wy p R' S' A') (hs : StepH NoX p R R' wx wy) {i' κ' : Nat} (hr : Has S' A' 1 x (rootT (setOfL (L.take i')) κ')) (hre : Reach2 κ' (L.take i')) (h1 : 1 ≤ κ') (h2 : κ' ≤ 20) (hv : ∃ V, Within S' V ∧ V.length ≤ 6000 + 25 * κ' + 25 * i') :
    OneI W w1 p root T0 L v i' κ' x S' A' R' wy := by
  obtain ⟨g1, g2, g3⟩ := h.rd.step h.no h.lt hs
  obtain ⟨g4, g5⟩ := hs.low h.low.size h.own
  exact ⟨ha, hr, hre, h1, h2, h.old.st (by decide) ht, hv, ht.room.trans h.room, by rw [ht.quota]; exact h.quota, g1, g2, g3, h.low.trans g4, g5⟩
theorem OneI.below (h : OneI W w1 p root T0 L v i κ r S A R wx) (hb : Below wx.heap.size wx wy) : OneI W w1 p root T0 L v i κ r S A R wy :=
  h.next (St.refl h.ar.rel 1) (h.ar.below hb) (StepH.of_below hb) h.has h.reach h.one h.few h.vs
/-- Peeled, it is the root made at once. -/
theorem one_end {l : List (Int × Int)} {k0 κ' : Nat} (h : OneI W w1 p root (rootT (setOfL l) k0) L v L.length κ r S A R wx) (hk0 : leastK l k0) (hperm : ∀ c, c ∈ L ↔ c ∈ l) (hk : 1 ≤ κ') (_hle : κ' ≤ κ) (hst : St 1 S A S' A') (hx : Has S' A' 1 x (rootT (setOfL (L.take L.length)) κ')) (hf : Fits (setOfL (L.take L.length)) κ κ') (hm : κ' = 1 ∨ ¬ Fits (setOfL (L.take L.length)) κ' (κ' - 1)) : x = root := by
  have hreach := h.reach
  rw [List.take_length] at hx hf hm hreach
  have hl : leastK L κ' := ⟨hk, fun c hc => hf c.1 c.2 (hreach c hc) (decide_eq_true hc), fun j h1 h2 h3 => by
    rcases hm with rfl | hm
    · omega
    · exact hm fun a b _ hp => root_mono (by omega) (h3 (a, b) (of_decide_eq_true hp))⟩
  have e := leastK_unique hl hk0 hperm
  subst e
  rw [setOfL_same hperm] at hx
  exact Den.inj hx.1 (h.old.st (by decide) hst).1
end
end Go.Proofs.Ytdbhddkkcchmmaa

namespace Go.Proofs.Ytdbhddkkcchmmaa
open Go.RowKit

/-- The cells of a root made of a list are the list's. -/
theorem cells_list {l : List (Int × Int)} {k : Nat} (h : Reach2 k l) : ∀ c, c ∈ cellsT (setOfL l) (k + 1) (-2 ^ k) (-2 ^ k) ↔ c ∈ l := fun c => by
  rw [mem_cellsT]
  exact ⟨fun q => of_decide_eq_true q.2, fun q => ⟨h c q, decide_eq_true q⟩⟩
theorem cells_len {l : List (Int × Int)} {k : Nat} (h : Reach2 k l) : (cellsT (setOfL l) (k + 1) (-2 ^ k) (-2 ^ k)).length ≤ l.length :=
  List.Nodup.length_le_of_subset (cellsT_nodup _ _ _ _) fun c hc => (cells_list h c).1 hc
theorem within_twin {S S' : ArS} {V : List Thing} (tw : Twin S S') (h : Within S V) : Within S' V := fun i x hd => h i x (tw.denT.1 hd)
section
variable {S0 S1 S3 S5 : ArS} {A0 A1 A3 A5 : Nat → Abs} {t : Nat} {Tl Tm : Tree} {p q r : Int}
def markS (S : ArS) (t : Nat) : ArS := { S with added := upd S.added t [] }
def markA (A : Nat → Abs) (t : Nat) : Nat → Abs := upd A t ⟨(A t).have_, []⟩
def undoA (A : Nat → Abs) (t : Nat) : Nat → Abs := upd A t ⟨restL (A t), []⟩
theorem markS_add {S : ArS} {A : Nat → Abs} (h : Rel S A) (ha : ∀ u, u < 64 → ((S.added u).length : Int) ≤ S.count u) : ∀ u, u < 64 → (((markS S t).added u).length : Int) ≤ (markS S t).count u := fun u hu => by
  show ((upd S.added t [] u).length : Int) ≤ S.count u
  by_cases e : u = t
  · subst e; rw [upd_same]; exact (h.inv.cnt_le hu).1
  · rw [upd_ne _ _ e]; exact ha u hu
theorem undoS_add {S : ArS} {A : Nat → Abs} (h : Rel S A) (ht : t < 64) (ha : ∀ u, u < 64 → ((S.added u).length : Int) ≤ S.count u) : ∀ u, u < 64 → (((undoS S t).added u).length : Int) ≤ (undoS S t).count u := fun u hu => by
  have hr := (h.undo ht).1
  show ((upd S.added t [] u).length : Int) ≤ (undoS S t).count u
  by_cases e : u = t
  · subst e; rw [upd_same]; exact (hr.inv.cnt_le hu).1
  · rw [upd_ne _ _ e, hr.count hu, upd_ne _ _ e, ← h.count hu]; exact ha u hu
/-- What undoing leaves. -/
theorem rest_law (_h1 : Rel S1 A1) (_ht : t < 64) (hm : Made t (nodes Tm) (markS S1 t) (markA A1 t) 0 S3 A3 0) : ∀ x, x ∈ (undoA A3 t t).have_ ↔ x ∈ (A1 t).have_ := fun x => by
  obtain ⟨_, a1, a2⟩ := hm.ok rfl
  unfold undoA
  rw [upd_same]
  show x ∈ restL (A3 t) ↔ _
  unfold restL
  rw [List.mem_filter]
  have b1 := a1 x
  have b2 := a2 x
  unfold markA at b1 b2
  rw [upd_same] at b1 b2
  simp only [List.not_mem_nil, false_or] at b1 b2
  constructor
  · rintro ⟨g1, g2⟩
    rcases b1.1 g1 with q | q
    · exact q
    · by_cases e : x ∈ (A1 t).have_
      · exact e
      · have := b2.2 ⟨q, e⟩
        simp [this] at g2
  · intro g
    refine ⟨b1.2 (.inl g), ?_⟩
    have : x ∉ (A3 t).added := fun q => (b2.1 q).2 g
    simp [this]
/-- What ArenaUndoes asks. -/
theorem undo_law (h1 : Rel S1 A1) (ht : t < 64) (hp : Has S1 A1 t p Tl) (hm : Made t (nodes Tm) (markS S1 t) (markA A1 t) 0 S3 A3 0) (hq : Has S3 A3 t q Tm) :
    Rel (undoS S3 t) (undoA A3 t) ∧ Has (undoS S3 t) (undoA A3 t) t p Tl ∧ (undoS S3 t).count t = S1.count t ∧ Den (undoS S3 t) q Tm := by
  have hr := hm.st.rel.undo ht
  have hmk := h1.mark ht
  have hrest := rest_law h1 ht hm
  have hk2 : hasT (markA A1 t t).have_ Tl = true := by unfold markA; rw [upd_same]; exact hp.2
  refine ⟨hr.1, ⟨hr.2.den.2 (hm.st.stay t ht Tl p hk2 (hmk.2.den.2 hp.1)), has_nodes fun x hx => (hrest x).2 (h1.nodes_has ht hp.2 x hx)⟩, ?_, hr.2.den.2 hq.1⟩
  rw [hr.1.count ht, h1.count ht]
  have := nodup_len (hr.1.ok t ht).nodup (h1.ok t ht).nodup hrest
  show (((undoA A3 t) t).have_.length : Int) = _
  rw [show ((undoA A3 t) t).have_.length = (A1 t).have_.length from this]
theorem undo_again (h1 : Rel S1 A1) (ht : t < 64) (hm : Made t (nodes Tm) (markS S1 t) (markA A1 t) 0 S3 A3 0) (hq : Den (undoS S3 t) q Tm) (hm5 : Made t (nodes Tm) (undoS S3 t) (undoA A3 t) 0 S5 A5 0) (hst : Stays (fun _ => True) (undoS S3 t) S5) (hr : Has S5 A5 t r Tm) :
    r = q ∧ S5.count t = S3.count t := by
  have hrest := rest_law h1 ht hm
  refine ⟨Den.inj hr.1 (Den.stays hst hq), ?_⟩
  rw [hm5.st.rel.count ht, hm.st.rel.count ht]
  have : (A5 t).have_.length = (A3 t).have_.length := nodup_len (hm5.st.rel.ok t ht).nodup (hm.st.rel.ok t ht).nodup fun x => by
    rw [(hm5.ok rfl).2.1, hrest, (hm.ok rfl).2.1]
    unfold markA; rw [upd_same]
  rw [this]
end
end Go.Proofs.Ytdbhddkkcchmmaa

namespace Go.Proofs.Ytdbhddkkcchmmaa
open Go.RowKit

theorem cnt_cells (P : Int → Int → Bool) : ∀ (n : Nat) (x y : Int), cntT (treeOf P n x y) = (cellsT P n x y).length
  | 0, x, y => by
    simp only [treeOf, cellsT]
    cases P x y <;> rfl
  | n + 1, x, y => by
    simp only [treeOf, cellsT, cntT, List.length_append]
    rw [cnt_cells P n, cnt_cells P n, cnt_cells P n, cnt_cells P n]
    simp [gx, gy]
theorem cnt_few {l : List (Int × Int)} {k : Nat} (h : Reach2 k l) : cntT (rootT (setOfL l) k) ≤ l.length := by
  unfold rootT
  rw [cnt_cells]
  exact cells_len h
theorem set_twice (P : Int → Int → Bool) (a b : Int) (u v : Bool) : setP (setP P a b u) a b v = setP P a b v := by
  funext c d
  unfold setP
  by_cases e : c = a ∧ d = b
  · rw [if_pos e, if_pos e]
  · rw [if_neg e, if_neg e, if_neg e]
/-- Setting it dead takes just one cell away. -/
theorem cnt_root {P : Int → Int → Bool} {k : Nat} {cx cy : Int} (hx : -2 ^ k ≤ cx ∧ cx < 2 ^ k) (hy : -2 ^ k ≤ cy ∧ cy < 2 ^ k) : cntT (rootT (setP P cx cy true) k) = cntT (rootT (setP P cx cy false) k) + 1 := by
  have hpw : (2 : Int) ^ (k + 1) = 2 ^ k * 2 := Int.pow_succ 2 k
  have h := cnt_set (P := P) (k + 1) (-2 ^ k) (-2 ^ k) (cx + 2 ^ k) (cy + 2 ^ k) ⟨by omega, by omega⟩ ⟨by omega, by omega⟩
  rw [rootT_set, rootT_set] at h
  exact h
/-- The arena between the calls. -/
structure Er (w0 : World) (p : Nat) (S : ArS) (A : Nat → Abs) (R : ArR) (n : Nat) (wx : World) : Prop where
  ar : Ar wx p R S A
  vs : ∃ V, Within S V ∧ V.length ≤ n
  room : S.room = 200000
  quota : S.quota 1 = 200000
  low : Below w0.heap.size w0 wx
  own : ∀ b, Own p R b → w0.heap.size ≤ b
section
variable {w0 wx wy : World} {p n k : Nat} {S S' : ArS} {A A' : Nat → Abs} {R R' : ArR} {r : Int} {P : Int → Int → Bool} {cx cy : Int} {e : Ending}
theorem Er.put (h : Er w0 p S A R n wx) (hn : n ≤ 20000) (hk : k ≤ 40) (hx : -2 ^ k ≤ cx ∧ cx < 2 ^ k) (hy : -2 ^ k ≤ cy ∧ cy < 2 ^ k) (hr : Has S A 1 r (rootT P k)) {al : Bool} (hp : RootPost wx p R S A 1 (rootT (setP P cx cy al) k) e wy) :
    ∃ (r' : Int) (S' : ArS) (A' : Nat → Abs) (R' : ArR), e = .returned (.tuple #[.int .i64 r', .int .i64 0]) ∧ Er w0 p S' A' R' (n + 44) wy ∧ Has S' A' 1 r' (rootT (setP P cx cy al) k) ∧ St 1 S A S' A' := by
  obtain ⟨r', S', A', R', bad, rfl, hm, hh, ha, hs⟩ := hp
  obtain ⟨V, hV, hl⟩ := h.vs
  have hpw : (2 : Int) ^ (k + 1) = 2 ^ k * 2 := Int.pow_succ 2 k
  obtain ⟨V2, g1, g2⟩ := put_few P al (k + 1) (-2 ^ k) (-2 ^ k) (cx + 2 ^ k) (cy + 2 ^ k) ⟨by omega, by omega⟩ ⟨by omega, by omega⟩
  rw [rootT_set] at g2
  have hro := h.room
  have hqu := h.quota
  obtain ⟨q1, q2, _⟩ := hm.enough (V ++ V2) (fun j y hd => List.mem_append_left _ (hV j y hd)) (fun y hy => by
    rcases g2 y hy with q | q
    · exact List.mem_append_left _ (h.ar.rel.have_in (by decide) hV y (h.ar.rel.nodes_has (by decide) hr.2 y q))
    · exact List.mem_append_right _ q) (by rw [List.length_append]; omega) (by rw [List.length_append]; omega)
  subst q1
  obtain ⟨g4, g5⟩ := hs.low h.low.size h.own
  exact ⟨r', S', A', R', by rw [if_pos rfl], ⟨ha, ⟨_, q2, by rw [List.length_append]; omega⟩, hm.st.room.trans hro, by rw [hm.st.quota]; exact hqu, h.low.trans g4, g5⟩, hh rfl, hm.st⟩
theorem Er.step (h : Er w0 p S A R n wx) (ha : Ar wy p R S A) (hs : StepH NoX p R R wx wy) : Er w0 p S A R n wy := by
  obtain ⟨g4, g5⟩ := hs.low h.low.size h.own
  exact ⟨ha, h.vs, h.room, h.quota, h.low.trans g4, g5⟩
end
/-- Where the far cells are, every cell near 0 is in reach. -/
theorem far_reach {l : List (Int × Int)} {k : Nat} (h : Reach2 k (l ++ [((999 : Int), (-1000 : Int)), (-1000, 999)])) {x : Int} (hx : -1000 ≤ x ∧ x < 1000) : -2 ^ k ≤ x ∧ x < 2 ^ k := by
  have h1 := inB_root.1 (h (999, -1000) (by simp))
  have h2 := inB_root.1 (h (-1000, 999) (by simp))
  dsimp only at h1 h2
  omega
/-- Two cells laid out. -/
theorem flat_far : flat [((999 : Int), (-1000 : Int)), (-1000, 999)] = [.int .i64 999, .int .i64 (-1000), .int .i64 (-1000), .int .i64 999] := rfl
end Go.Proofs.Ytdbhddkkcchmmaa

namespace Go.Proofs.Ytdbhddkkcchmmaa
open Go.RowKit

theorem near_okC {l : List (Int × Int)} {most : Nat} {near : Int} (h : 0 < near) (h2 : near ≤ 1099511627775) : ∀ c ∈ someL l most near, okC c := fun c hc => by
  have := someL_near h hc
  unfold okC okZ; omega

set_option maxRecDepth 100000 in
set_option maxHeartbeats 3200000 in
theorem quadShared_any (W : World) (n : Nat) (v : Value) (l : List (Int × Int)) (t u : Int) (hR : Rd W W.heap.size 2 v n (flat l)) (hin : ∀ c ∈ l, inC c) (ht : -9223372036854775808 ≤ t ∧ t ≤ 9223372036854775807) (hu : -9223372036854775808 ≤ u ∧ u ≤ 9223372036854775807) :
    Calls Try.prog 3 #[v, .int .i64 t, .int .i64 u] W fun e W' => e = .returned (.bool true) ∧ Below W.heap.size W W' := by
  have H1 := Lib.hid (some_lit W n 200 200 rfl v l 549755813888 hR hin (by decide) (by decide) (by decide))
  have HOK := Lib.hid (near_okC (l := l) (most := 200) (near := 549755813888) (by decide) (by decide))
  have HLN : Hid ((someL l 200 549755813888).length = min 200 n) := by have := hR.pairs.1; show _ = _; rw [someL_length, this]
  have HT := Lib.hid ht
  have HU := Lib.hid hu
  clear hR hin ht hu
  go_enter Try.func3, Try.ntmps3
  go_wp2_with fail
  (with_reducible refine H1.out.mono ?_)
  rintro e w1 ⟨v1, rfl, hs1, hf1, hb1⟩
  generalize hL : someL l 200 549755813888 = L at hs1 HOK HLN
  have hm1 : min 200 n ≤ 200 := Nat.min_le_left _ _
  generalize min 200 n = m at hs1 HLN hm1
  have HS1 := Lib.hid hs1
  have HB1 := Lib.hid hb1
  have HM1 := Lib.hid hm1
  clear hs1 hf1 hb1 H1 hL hm1
  go_wp2_with fail
  (with_reducible refine (spot_any t 62 (by omega) (by omega) HT.out.1 HT.out.2 _).mono ?_)
  rintro e wq ⟨rfl, rfl⟩
  go_wp2_with fail
  (with_reducible refine (spot_any u 62 (by omega) (by omega) HU.out.1 HU.out.2 _).mono ?_)
  rintro e wq ⟨rfl, rfl⟩
  obtain ⟨tn, htn, htl⟩ : ∃ tn : Nat, t % 62 = tn ∧ tn < 62 := ⟨(t % 62).toNat, by omega, by omega⟩
  obtain ⟨un, hun, hul⟩ : ∃ un : Nat, u % 62 = un ∧ un < 62 := ⟨(u % 62).toNat, by omega, by omega⟩
  rw [htn, hun]
  have HTL := Lib.hid htl
  have HUL := Lib.hid hul
  clear htn hun htl hul HT HU
  go_wp2_with fail
  (with_reducible refine (begunQ_any w1).mono ?_)
  rintro e w2 ⟨p, R, S, A, rfl, hA, hn, hro, hqu, hV, hb2, hfr⟩
  have HA := Lib.hid hA
  have HN := Lib.hid hn
  have HRO := Lib.hid hro
  have HQU := Lib.hid hqu
  have HV := Lib.hid hV
  have HB2 := Lib.hid hb2
  have HFR := Lib.hid hfr
  clear hA hn hro hqu hV hb2 hfr
  go_wp2_with fail
  (with_reducible refine (from_any w2 p R S A HA.out tn (by have := HTL.out; omega) w1.heap.size m v1 L (HS1.out.rd.below HB2.out) HB2.out.size (by have := HM1.out; omega) HOK.out).mono ?_)
  rintro e w3 ⟨k, hk, hk40, r, S1, A1, R1, bad1, rfl, hm, hh, hA1, hst⟩
  obtain ⟨rfl, ⟨V1, hV1, hV1l⟩, _⟩ := made_fine (by omega) HV.out (by have := HLN.out; have := HM1.out; simp only [List.length_singleton]; omega) HRO.out (HQU.out tn (by have := HTL.out; omega)) hm
  rw [if_pos rfl]
  have HK := Lib.hid hk
  have HM := Lib.hid hm
  have HH := Lib.hid (hh rfl)
  have HA1 := Lib.hid hA1
  have HST := Lib.hid hst
  have HLV : Hid (S1.live < 200000) := by have h1 := hA1.rel.live_le hV1; have h2 := HLN.out; have h3 := HM1.out; simp only [List.length_singleton] at hV1l; show S1.live < 200000; omega
  clear hk hk40 hm hh hA1 hst hV1 hV1l HA HV
  go_wp2_with fail
  (with_reducible refine (live_any w3 p R1 S1 HA1.out.arm).mono ?_)
  rintro e wq ⟨rfl, rfl⟩
  go_wp2_with fail
  (with_reducible refine (count_any w3 p R1 S1 HA1.out.arm tn (by have := HTL.out; omega)).mono ?_)
  rintro e wq ⟨rfl, rfl⟩
  go_wp2_with fail
  obtain ⟨hb3, hf3⟩ := HST.out.low HB2.out.size HFR.out
  have HB3 := Lib.hid (HB2.out.trans hb3)
  have HF3 := Lib.hid hf3
  clear hb3 hf3 HST HFR HB2
  (with_reducible refine (from_any w3 p R1 S1 A1 HA1.out un (by have := HUL.out; omega) w1.heap.size m v1 L (HS1.out.rd.below HB3.out) HB3.out.size (by have := HM1.out; omega) HOK.out).mono ?_)
  rintro e w4 ⟨k2, hk, hk40, q, S2, A2, R2, bad2, rfl, hm, hh, hA2, hst⟩
  obtain rfl : k = k2 := leastK_unique HK.out hk (fun _ => Iff.rfl)
  have hrm : S1.live < S1.room := by rw [HM.out.st.room, HRO.out]; exact HLV.out
  have hqt : S1.live < S1.quota un := by rw [HM.out.st.quota, HQU.out un (by have := HUL.out; omega)]; exact HLV.out
  obtain ⟨V, v1', v2, v3, v4⟩ := HA1.out.rel.things
  obtain ⟨rfl, _⟩ := hm.enough V v2 (fun x hx => by obtain ⟨i, hi⟩ := HH.out.1.nodes x hx; exact v2 i x hi) (by omega) (by omega)
  obtain ⟨hpq, hl2, hc1, hc2⟩ := shared_law HTL.out HUL.out HN.out HM.out HH.out hm (hh rfl) hrm hqt
  rw [if_pos rfl]
  obtain ⟨hb4, _⟩ := hst.low HB3.out.size HF3.out
  have HB4 : Hid (Below W.heap.size W w4) := HB1.out.trans ((HB3.out.trans hb4).mono HB1.out.size)
  have HA2 := Lib.hid hA2
  subst hpq
  have HL2 := Lib.hid hl2
  have HC1 := Lib.hid hc1
  have HC2 := Lib.hid hc2
  clear hk hk40 hm hh hA2 hst hb4 hl2 hc1 hc2 hrm hqt v1' v2 v3 v4
  go_wp2_with fail
  (with_reducible refine (live_any w4 p R2 S2 HA2.out.arm).mono ?_)
  rintro e wq ⟨rfl, rfl⟩
  rw [HL2.out]
  go_wp2_with fail
  (with_reducible refine (count_any w4 p R2 S2 HA2.out.arm tn (by have := HTL.out; omega)).mono ?_)
  rintro e wq ⟨rfl, rfl⟩
  rw [HC1.out]
  go_wp2_with fail
  (with_reducible refine (count_any w4 p R2 S2 HA2.out.arm un (by have := HUL.out; omega)).mono ?_)
  rintro e wq ⟨rfl, rfl⟩
  rw [HC2.out]
  go_wp2_with fail
  go_ret
  exact ⟨rfl, HB4.out⟩
end Go.Proofs.Ytdbhddkkcchmmaa

namespace Go.Proofs.Ytdbhddkkcchmmaa
open Go.RowKit

/-- A copy in new memory. -/
def CopyPost (w : World) (n : Nat) (l : List (Int × Int)) (e : Ending) (w' : World) : Prop :=
  ∃ v', e = .returned v' ∧ Sl w' 35 2 v' n (flat l) ∧ (∀ b, sblk v' = some b → w.heap.size ≤ b) ∧ Below w.heap.size w w'

theorem cells_any (w : World) (B n : Nat) (v : Value) (l : List (Int × Int)) (h : Rd w B 2 v n (flat l)) (hn : n * 16 ≤ 140737488355328) :
    Calls Try.prog 14 #[v] w (CopyPost w n l) := by
  obtain ⟨A, cap, rfl, hc1, hc2⟩ := h.form
  have HR := Lib.hid h
  have HSL := Lib.hid (Sl.nil w 35 2)
  unfold maxLen at hc2
  clear h
  go_enter Try.func14, Try.ntmps14
  go_wp2_with (at_builtin; refine wpList_append_sl _ rfl (.const (.slice none 0 0)) (.tmp 3) 22 rfl 35 (.agg #[.int .i64 0, .int .i64 0]) 2 16 Try.underlying22 Try.info35 rfl (by decide) rfl HSL.out rfl HR.out flat_one (by omega) (by unfold maxLen; omega) ?_; intro v' w1 hs1 hm1 hd1)
  go_ret
  obtain ⟨f1, f2⟩ := fresh_of (w := w) (v := .slice none 0 0) hm1 hd1 (Below.refl _ _) (fun b hb => by simp [sblk] at hb)
  exact ⟨v', rfl, by simpa using hs1, f1, f2⟩
end Go.Proofs.Ytdbhddkkcchmmaa

namespace Go.Proofs.Ytdbhddkkcchmmaa
open Go.RowKit

theorem cast_1e : ((1 : Nat) : Int) = 1 := rfl

set_option maxRecDepth 100000 in
set_option maxHeartbeats 6400000 in
theorem quadEras_any (W : World) (n : Nat) (v : Value) (l : List (Int × Int)) (x y : Int) (hR : Rd W W.heap.size 2 v n (flat l)) (hin : ∀ c ∈ l, inC c) (hxy : inC (x, y)) :
    Calls Try.prog 4 #[v, .agg #[.int .i64 x, .int .i64 y]] W fun e W' => e = .returned (.bool true) ∧ Below W.heap.size W W' := by
  have hb0 : Below W.heap.size W (W.alloc (.cells #[.int .i64 x, .int .i64 y] 35)) := (Below.refl _ _).alloc (Nat.le_refl _) _
  have H1 := Lib.hid (some_lit _ n 100 100 rfl v l 1000 ((hR.below hb0).more hb0.size) hin (by decide) (by decide) (by decide))
  have HC0 := Lib.hid (Blk.new W 35 #[.int .i64 x, .int .i64 y])
  have HB0 := Lib.hid hb0
  clear hb0
  have HOK := Lib.hid (near_okC (l := l) (most := 100) (near := 1000) (by decide) (by decide))
  have HLN : Hid ((someL l 100 1000).length = min 100 n) := by have := hR.pairs.1; show _ = _; rw [someL_length, this]
  have HXY := Lib.hid hxy
  clear hR hin hxy
  go_enter Try.func4, Try.ntmps4
  go_wp2_with fail
  (with_reducible refine H1.out.mono ?_)
  rintro e w1 ⟨v1, rfl, hs1, hf1, hb1⟩
  generalize hL : someL l 100 1000 = L0 at hs1 HOK HLN
  have hm1 : min 100 n ≤ 100 := Nat.min_le_left _ _
  generalize min 100 n = m at hs1 HLN hm1
  have HS1 := Lib.hid hs1
  have HF1 : Hid (∀ b, sblk v1 = some b → b ≠ W.heap.size) := fun b hb => by have := hf1 b hb; rw [World.size_alloc] at this; omega
  have HB1 := Lib.hid hb1
  have HM1 := Lib.hid hm1
  have hc1 := HC0.out.mod (Mod.of_below_all hb1) (fun h => h)
  have d0 := hc1.cellS (i := 0) rfl
  have d1 := hc1.cellS (i := 1) rfl
  have HC1 := Lib.hid hc1
  clear hs1 hf1 hb1 H1 hL hm1 hc1
  go_wp2_with fail
  have hx := Rd.fresh w1 35 #[.int .i64 x, .int .i64 y] 2 1 rfl (by unfold maxLen; omega)
  have h2 := some_lit _ 1 1 1 rfl _ [(x, y)] 1000 (by rw [World.size_alloc]; exact hx) (fun c hc => by rw [List.mem_singleton.1 hc]; exact HXY.out) (by decide) (by decide) (by decide)
  (with_reducible refine h2.mono ?_)
  clear h2 hx
  rintro e w2 ⟨v2, rfl, hs2, hf2, hb2⟩
  rw [show someL [(x, y)] 1 1000 = [nearC 1000 (x, y)] from rfl, show min 1 1 = 1 from rfl] at hs2
  have hcr := someL_near (l := [(x, y)]) (most := 1) (near := 1000) (by decide) (c := nearC 1000 (x, y)) (List.mem_singleton.2 rfl)
  generalize nearC 1000 (x, y) = c at hs2 hcr
  obtain ⟨cx, cy⟩ := c
  have HCR := Lib.hid hcr
  obtain ⟨b4, off4, cp, he4, _, _, hb4, hcs4⟩ := hs2.rd.pairs.2 (by decide)
  subst he4
  have f0 : w2.cell? ⟨b4, off4, none⟩ = some (.int .i64 cx) := (hcs4 0 (by decide)).1
  have f1 : w2.cell? ⟨b4, off4 + 1, none⟩ = some (.int .i64 cy) := (hcs4 0 (by decide)).2
  have hb12 : Below w1.heap.size w1 w2 := ((Below.refl _ _).alloc (Nat.le_refl _) _).trans (hb2.mono (by simp))
  have hc2 := HC1.out.mod (Mod.of_below_all hb12) (fun h => h)
  have d0 := hc2.cellS (i := 0) rfl
  have d1 := hc2.cellS (i := 1) rfl
  have k0 := hc2.frozen 0
  have k1 := (hc2.set 0 (.int .i64 cx)).frozen 1
  have d2 := (hc2.set 0 (.int .i64 cx)).cellS (i := 1) rfl
  have HC2 := Lib.hid hc2
  have HB2 : Hid (Below W.heap.size W w2) := (HB0.out.trans (HB1.out.mono HB0.out.size)).trans (hb12.mono (HB0.out.trans (HB1.out.mono HB0.out.size)).size)
  have HS2 := Lib.hid (HS1.out.below hb12)
  clear hs2 hf2 hb2 hcr hcs4 hb12 hc2
  go_wp2_with fail
  have HB3 := Lib.hid ((HB2.out.setCell (p := ⟨W.heap.size, 0, none⟩) (Nat.le_refl _) (.int .i64 cx)).setCell (p := ⟨W.heap.size, 1, none⟩) (Nat.le_refl _) (.int .i64 cy))
  have HC3 : Hid (Blk ((w2.setCell ⟨W.heap.size, 0, none⟩ (.int .i64 cx)).setCell ⟨W.heap.size, 1, none⟩ (.int .i64 cy)) W.heap.size 35 #[.int .i64 cx, .int .i64 cy]) := (HC2.out.set 0 (.int .i64 cx)).set 1 (.int .i64 cy)
  have HS3 := Lib.hid ((HS2.out.far (p := ⟨W.heap.size, 0, none⟩) (fun e => HF1.out _ e rfl) (.int .i64 cx)).far (p := ⟨W.heap.size, 1, none⟩) (fun e => HF1.out _ e rfl) (.int .i64 cy))
  clear d0 d1 d2 f0 f1 k0 k1
  generalize (w2.setCell ⟨W.heap.size, 0, none⟩ (.int .i64 cx)).setCell ⟨W.heap.size, 1, none⟩ (.int .i64 cy) = w3 at HB3 HC3 HS3 ⊢
  have HCX : Hid (∀ wx, Below w3.heap.size w3 wx → Blk wx W.heap.size 35 #[.int .i64 cx, .int .i64 cy]) := fun wx hb => HC3.out.mod (Mod.of_below_all hb) (fun h => h)
  (with_reducible refine (begunQ_any w3).mono ?_)
  rintro e w4 ⟨p, R, S, A, rfl, hA, hn, hro, hqu, hV, hb4, hfr⟩
  have HA := Lib.hid hA
  have HRO := Lib.hid hro
  have HQU := Lib.hid hqu
  have HV := Lib.hid hV
  have HB4 := Lib.hid hb4
  have HFR := Lib.hid hfr
  have hcl := cells_any w4 w4.heap.size m v1 L0 (HS3.out.below hb4).rd (by have := HM1.out; omega)
  have HCL := Lib.hid hcl
  clear hA hn hro hqu hV hb4 hfr hcl
  go_wp2_with fail
  (with_reducible refine HCL.out.mono ?_)
  rintro e w5 ⟨v5, rfl, hs5, hf5, hb5⟩
  have HS5 := Lib.hid hs5
  have HF5 := Lib.hid hf5
  have HB5 := Lib.hid hb5
  clear hs5 hf5 hb5
  have hx := Rd.fresh w5 35 #[.int .i64 999, .int .i64 (-1000), .int .i64 (-1000), .int .i64 999] 2 2 rfl (by unfold maxLen; omega)
  have HX := Lib.hid hx
  clear hx HCL
  go_wp2_with (at_builtin; refine wpList_append_sl _ rfl (.tmp 35) (.tmp 38) 22 rfl 35 (.agg #[.int .i64 0, .int .i64 0]) 2 16 Try.underlying22 Try.info35 rfl (by decide) rfl (by exact HS5.out.alloc _) rfl (by exact HX.out) (by intro u hu; simp at hu; rcases hu with rfl | rfl | rfl | rfl <;> rfl) (by have := HM1.out; omega) (by have := HM1.out; unfold maxLen; omega) ?_; intro v6 w6 hs6 hm6 hd6; obtain ⟨A6, cap6, rfl, q1, q2⟩ := hs6.form)
  have hm6' : Mod (fun b => sblk v5 = some b) (w5.alloc (.cells #[.int .i64 999, .int .i64 (-1000), .int .i64 (-1000), .int .i64 999] 35)) w6 := hm6
  have hb6 : Below w4.heap.size w4 w6 := by
    have h1 := HB5.out.alloc HB5.out.size (.cells #[.int .i64 999, .int .i64 (-1000), .int .i64 (-1000), .int .i64 999] 35)
    exact h1.trans (hm6'.below h1.size fun b hb e => by have := HF5.out b e; omega)
  have hsl : Sl w6 35 2 (.slice A6 (m + 2) cap6) (m + 2) (flat (L0 ++ [((999 : Int), (-1000 : Int)), (-1000, 999)])) := by rw [flat_append]; exact hs6
  have HR6 := Lib.hid hsl.rd
  have HA6 := Lib.hid (HA.out.below hb6)
  have HB6 := Lib.hid (HB4.out.trans (hb6.mono HB4.out.size))
  have HOK6 : Hid (∀ c ∈ L0 ++ [((999 : Int), (-1000 : Int)), (-1000, 999)], okC c) := fun c hc => by
    rcases List.mem_append.1 hc with q | q
    · exact HOK.out c q
    · simp at q
      rcases q with rfl | rfl <;> (unfold okC okZ; dsimp only; omega)
  have HL6 : Hid ((L0 ++ [((999 : Int), (-1000 : Int)), (-1000, 999)]).length = m + 2) := by show (L0 ++ [((999 : Int), (-1000 : Int)), (-1000, 999)]).length = m + 2; rw [List.length_append, HLN.out]; rfl
  have HRE := Lib.hid (fun k h x hx => far_reach (l := L0) (k := k) h (x := x) hx)
  generalize L0 ++ [((999 : Int), (-1000 : Int)), (-1000, 999)] = L at HR6 HOK6 HL6 HRE
  clear hm6 hm6' hb6 hsl hs6 hd6 q1 q2
  go_wp2_with fail
  have hq := from_any w6 p R S A HA6.out 1 (by decide) w6.heap.size (m + 2) _ L HR6.out (Nat.le_refl _) (by have := HM1.out; omega) HOK6.out
  rw [cast_1e] at hq
  (with_reducible refine hq.mono ?_)
  clear hq
  rintro e w7 ⟨k, hk, hk40, root, S1, A1, R1, bad, rfl, hm, hh, hA1, hst⟩
  obtain ⟨rfl, ⟨V1, hV1, hV1l⟩, _⟩ := made_fine (by omega) HV.out (by have := HL6.out; have := HM1.out; simp only [List.length_singleton]; omega) HRO.out (HQU.out 1 (by decide)) hm
  rw [if_pos rfl]
  simp only [List.length_singleton] at hV1l
  obtain ⟨hb7, hf7⟩ := hst.low HB6.out.size HFR.out
  have HE1 : Hid (Er w3 p S1 A1 R1 10000 w7) := ⟨hA1, ⟨V1, hV1, by have := HL6.out; have := HM1.out; omega⟩, hm.st.room.trans HRO.out, by rw [hm.st.quota]; exact HQU.out 1 (by decide), HB6.out.trans hb7, hf7⟩
  have HH1 := Lib.hid (hh rfl)
  have hX := HRE.out k hk.2.1 cx HCR.out.1
  have hY := HRE.out k hk.2.1 cy HCR.out.2
  have HX := Lib.hid hX
  have HY := Lib.hid hY
  have HK := Lib.hid hk40
  have hr2 : Reach2 k (L ++ [(cx, cy)]) := fun c hc => by
    rcases List.mem_append.1 hc with q | q
    · exact hk.2.1 c q
    · rw [List.mem_singleton.1 q]; exact inB_root.2 ⟨hX.1, hX.2, hY.1, hY.2⟩
  have hcn := cnt_few hr2
  rw [← set_snoc, List.length_append, HL6.out] at hcn
  have hcn2 : cntT (rootT (setP (setOfL L) cx cy true) k) ≤ 200 := by have := HM1.out; simp only [List.length_singleton] at hcn; omega
  have HC1 := Lib.hid hcn2
  have HC2 := Lib.hid (cnt_root (P := setOfL L) hX hY)
  have hP1 := putR_in w7 p R1 S1 A1 hA1 1 (by decide) (setOfL L) k (by omega) root (hh rfl) cx cy hX hY true
  rw [cast_1e] at hP1
  have HP1 := Lib.hid hP1
  have d0 := (HCX.out w7 HE1.out.low).cellS (i := 0) rfl
  have d1 := (HCX.out w7 HE1.out.low).cellS (i := 1) rfl
  clear hk hk40 hm hh hA1 hst hV1 hV1l hb7 hf7 hX hY hr2 hcn hcn2 hP1
  go_wp2_with fail
  (with_reducible refine HP1.out.mono ?_)
  rintro e w8 hP
  obtain ⟨on, S2, A2, R2, rfl, hE2, hh2, hst2⟩ := HE1.out.put (by omega) HK.out HX.out HY.out HH1.out hP
  have hP2 := putR_in w8 p R2 S2 A2 hE2.ar 1 (by decide) (setP (setOfL L) cx cy true) k (by have := HK.out; omega) on hh2 cx cy HX.out HY.out true
  rw [cast_1e] at hP2
  have HP2 := Lib.hid hP2
  have HE2 := Lib.hid hE2
  have HH2 := Lib.hid hh2
  have d0 := (HCX.out w8 HE2.out.low).cellS (i := 0) rfl
  have d1 := (HCX.out w8 HE2.out.low).cellS (i := 1) rfl
  clear hP hE2 hh2 hst2 hP2 HP1
  go_wp2_with fail
  (with_reducible refine HP2.out.mono ?_)
  rintro e w9 hP
  obtain ⟨again, S3, A3, R3, rfl, hE3, hh3, hst3⟩ := HE2.out.put (by omega) HK.out HX.out HY.out HH2.out hP
  have hon := HH2.out.st (by decide) hst3
  rw [set_twice] at hh3
  have hsame : on = again := Den.inj hon.1 hh3.1
  subst hsame
  have hP3 := putR_in w9 p R3 S3 A3 hE3.ar 1 (by decide) (setP (setOfL L) cx cy true) k (by have := HK.out; omega) on hon cx cy HX.out HY.out false
  rw [cast_1e] at hP3
  have HP3 := Lib.hid hP3
  have HE3 := Lib.hid hE3
  have HH3 := Lib.hid hon
  have d0 := (HCX.out w9 HE3.out.low).cellS (i := 0) rfl
  have d1 := (HCX.out w9 HE3.out.low).cellS (i := 1) rfl
  clear hP hE3 hh3 hst3 hP3 HP2 hon
  go_wp2_with fail
  (with_reducible refine HP3.out.mono ?_)
  rintro e w10 hP
  obtain ⟨off, S4, A4, R4, rfl, hE4, hh4, hst4⟩ := HE3.out.put (by omega) HK.out HX.out HY.out HH3.out hP
  have hon := HH3.out.st (by decide) hst4
  rw [set_twice] at hh4
  have hQ1 := qcount_any w10 p R4 S4 A4 hE4.ar 1 (by decide) _ (Nat.le_trans HC1.out (by decide)) on hon
  rw [cast_1e] at hQ1
  have HQ1 := Lib.hid hQ1
  have HE4 := Lib.hid hE4
  have HH4 := Lib.hid hh4
  clear hP hE4 hh4 hst4 hQ1 HP3 hon d0 d1
  go_wp2_with fail
  (with_reducible refine HQ1.out.mono ?_)
  rintro e w11 ⟨rfl, hA11, hs11⟩
  have hE5 := HE4.out.step hA11 hs11
  have hQ2 := qcount_any w11 p R4 S4 A4 hA11 1 (by decide) _ (by have := HC1.out; have := HC2.out; omega) off HH4.out
  rw [cast_1e] at hQ2
  have HQ2 := Lib.hid hQ2
  have HE5 := Lib.hid hE5
  rw [HC2.out]
  clear hA11 hs11 hE5 hQ2 HQ1
  go_wp2_with fail
  (with_reducible refine HQ2.out.mono ?_)
  rintro e w12 ⟨rfl, hA12, hs12⟩
  have HE6 := Lib.hid (HE5.out.step hA12 hs12)
  have hcb : cntT (rootT (setP (setOfL L) cx cy false) k) ≤ 200 := by have := HC1.out; have := HC2.out; omega
  generalize cntT (rootT (setP (setOfL L) cx cy false) k) = g at hcb ⊢
  have hcb2 : (g : Int) ≤ 200 := by omega
  clear hA12 hs12 HQ2 hcb
  go_wp2_with fail
  go_ret
  exact ⟨rfl, HB3.out.trans (HE6.out.low.mono HB3.out.size)⟩
end Go.Proofs.Ytdbhddkkcchmmaa

namespace Go.Proofs.Ytdbhddkkcchmmaa
open Go.ChangeShapes Go.WideShapes Go.ChangeAt Go.RowKit

set_option maxRecDepth 100000 in
theorem quadEras_lifted (os : Os) (started : os.Started) (H : Type) (enc : TypeId × Value → H) :
    ReturnsInHanded {} Try.checked os 4 .any (Rows.quadErasSpec.pre6 enc Try.prog Try.f4 Rows.quadErasRow.domain false) (Rows.quadErasSpec.post enc Try.prog Try.f4 false true false false) := by
  refine returnsInHanded_of_change_sized (C := Try.checked) Try.ownC started (by kernel_rfl) Try.func4
    (ChangeSpec.witness6 (enc := enc) (C := Try.checked) false ⟨#[], #[.slice none 0 0, .agg #[.int .i64 0, .int .i64 0]], []⟩ 8 (by kernel_rfl) (by kernel_rfl) (by kernel_rfl) (by kernel_rfl)) ?_
  intro W base args ds gs before hval0 hW hcnd hsz0 _
  have hval : ∀ (j : Nat) t v, Try.f4.params[j]? = some t → args[j]? = some v → Value.okWide Try.prog W .any base t v := hval0
  clear hsz0
  have hW' := hW
  obtain ⟨p, q, hA0, hV, rfl, hfz, hnd⟩ := hW
  have hA : DataW.TrodAll enc Try.prog W 0 (fun _ => true) true Try.f4.params.toList args.toList ds p := hA0
  rw [Try.params4] at hA hval
  obtain ⟨v0, v1, d0, d1, p0, p1, rfl, rfl, rfl, h0, h1⟩ := trodAll_two hA
  obtain ⟨rfl, rfl⟩ := trodVars_none hV
  obtain ⟨n0, l0, hR0, hin0, _⟩ := cells_of (hval 0 22 v0 rfl rfl) h0
  obtain ⟨x1, y1, rfl, hx1, hy1⟩ := cell_of (hval 1 35 v1 rfl rfl) h1
  refine (quadEras_any W n0 v0 l0 x1 y1 hR0 hin0 ⟨hx1, hy1⟩).mono fun e W' ⟨he, hb⟩ => ?_
  subst he
  exact ⟨_, rfl, law_post Try.laidOutC (by rw [Try.params4]; intro t ht; simp at ht; rcases ht with rfl | rfl <;> exact ⟨by kernel_rfl, of_decide_eq_true (by kernel_rfl)⟩) rfl hW' hb (tb := 4) rfl Try.underlying4 rfl rfl rfl⟩

theorem quadEras_holds : Rows.QuadErasSaid :=
  OpenClaim.holds_of_wide 4 Try.f4 rfl rfl rfl rfl rfl rfl rfl ⟨rfl, rfl, rfl, rfl, rfl⟩ rfl rfl rfl rfl rfl (by kernel_rfl) Try.func4 (by kernel_rfl)
    (of_decide_eq_true (by kernel_rfl)) (by unfold Func.isWrapper; rw [if_neg (of_decide_eq_false (by kernel_rfl))]; exact ⟨rfl, rfl⟩)
    (fun os started H enc _ => quadEras_lifted os started H enc)
#print axioms quadEras_holds
end Go.Proofs.Ytdbhddkkcchmmaa
