/- speech.same: two requests compared. -/
import Derived.Test.YtkandepkojfblaaDoorSpReadW
namespace Go.Proofs.YtkandepkojfblaaDoor
open Go.RowKit

theorem run_neR (a b c d : Int) (w : World) : (binOp .neq 31 (.agg #[.int .i64 a, .int .i64 b]) (.agg #[.int .i64 c, .int .i64 d])).run Tryd.prog w = .ok (.bool (!eqC (a, b) (c, d))) w := by
  have hS : Tryd.prog.underlying 31 = some (.struct (Tryd.prog.fieldsOf 31)) := by kernel_rfl
  have hp : Tryd.prog.stoodInHeld 31 = false := by kernel_rfl
  have u3 := Tryd.underlying3
  have z3 := Tryd.sizeOf3
  have a3 := Tryd.isAgg3
  rw [run_neq_struct, show (10000 : Nat) = 9999 + 1 from rfl, run_equalIn_agg w 9999 _ _ _ hS hp]
  simp only [Program.fieldsOf, Tryd.underlying31]
  go_simp
  unfold eqC
  by_cases h1 : a = c <;> by_cases h2 : b = d <;> simp [h1, h2]
def SamePostS (w : World) (a b : SReq) (e : Ending) (w' : World) : Prop := ∃ c : Bool, (c = true ↔ a = b) ∧ e = .returned (.bool c) ∧ Below w.heap.size w w'
theorem same_no {w : World} {a b : SReq} (h : a ≠ b) (o1 o2 : Obj) : SamePostS w a b (.returned (.bool false)) ((w.alloc o1).alloc o2) :=
  ⟨false, by simp [h], rfl, ((Below.refl _ _).alloc (Nat.le_refl _) _).alloc (by rw [World.size_alloc]; omega) _⟩

set_option maxRecDepth 100000 in
set_option maxHeartbeats 3200000 in
theorem sameS_any (w : World) (B B' : Nat) (a b : SReq) (va vb : Value) (ha : Rd w B 2 va a.cells.length (flat a.cells)) (hb : Rd w B' 2 vb b.cells.length (flat b.cells)) :
    Calls Tryd.prog 21 #[reqV a va, reqV b vb] w (SamePostS w a b) := by
  obtain ⟨A, cap, rfl, hc1, hc2⟩ := ha.form
  obtain ⟨A', cap', rfl, hc1', hc2'⟩ := hb.form
  obtain ⟨_, hat⟩ := ha.pairs
  obtain ⟨_, hbt⟩ := hb.pairs
  have HA := Lib.hid hat
  have HB := Lib.hid hbt
  unfold maxLen at hc2 hc2'
  clear ha hb hat hbt
  obtain ⟨k1, nm1, o1, b1, l1, n1, cs1⟩ := a
  obtain ⟨k2, nm2, o2, b2, l2, n2, cs2⟩ := b
  unfold reqV
  dsimp only at *
  have hR := fun w => run_neR b1 l1 b2 l2 w
  by_cases h1 : k1 = k2
  rotate_left
  · have h1' : (k1 != k2) = true := by simpa using h1
    have HF : Hid ((⟨k1, nm1, o1, b1, l1, n1, cs1⟩ : SReq) ≠ ⟨k2, nm2, o2, b2, l2, n2, cs2⟩) := fun e => by injection e with e; exact h1 e
    clear h1
    go_enter Tryd.func21, Tryd.ntmps21
    go_wp2_with fail
    go_ret
    exact same_no HF.out _ _
  subst h1
  by_cases h2 : nm1 = nm2
  rotate_left
  · have h2' : ((str nm1).toList == (str nm2).toList) = false := by rw [str_toList, str_toList]; exact beq_eq_false_iff_ne.2 h2
    have HF : Hid ((⟨k1, nm1, o1, b1, l1, n1, cs1⟩ : SReq) ≠ ⟨k1, nm2, o2, b2, l2, n2, cs2⟩) := fun e => by injection e with _ e; exact h2 e
    clear h2
    go_enter Tryd.func21, Tryd.ntmps21
    go_wp2_with fail
    go_ret
    exact same_no HF.out _ _
  subst h2
  by_cases h3 : o1 = o2
  rotate_left
  · have h3' : ((str o1).toList == (str o2).toList) = false := by rw [str_toList, str_toList]; exact beq_eq_false_iff_ne.2 h3
    have HF : Hid ((⟨k1, nm1, o1, b1, l1, n1, cs1⟩ : SReq) ≠ ⟨k1, nm1, o2, b2, l2, n2, cs2⟩) := fun e => by injection e with _ _ e; exact h3 e
    clear h3
    go_enter Tryd.func21, Tryd.ntmps21
    go_wp2_with fail
    go_ret
    exact same_no HF.out _ _
  subst h3
  by_cases h4 : (b1, l1) = (b2, l2)
  rotate_left
  · rw [(eqC_false _ _).2 h4] at hR
    have HF : Hid ((⟨k1, nm1, o1, b1, l1, n1, cs1⟩ : SReq) ≠ ⟨k1, nm1, o1, b2, l2, n2, cs2⟩) := fun e => by injection e with _ _ _ e1 e2; exact h4 (by rw [e1, e2])
    clear h4
    go_enter Tryd.func21, Tryd.ntmps21
    go_wp2_with fail
    go_ret
    exact same_no HF.out _ _
  rw [(eqC_true _ _).2 h4] at hR
  injection h4 with h4 h4'
  subst h4 h4'
  by_cases h5 : n1 = n2
  rotate_left
  · have h5' : (n1 != n2) = true := by simpa using h5
    have HF : Hid ((⟨k1, nm1, o1, b1, l1, n1, cs1⟩ : SReq) ≠ ⟨k1, nm1, o1, b1, l1, n2, cs2⟩) := fun e => by injection e with _ _ _ _ _ e; exact h5 e
    clear h5
    go_enter Tryd.func21, Tryd.ntmps21
    go_wp2_with fail
    go_ret
    exact same_no HF.out _ _
  subst h5
  by_cases h6 : cs1.length = cs2.length
  rotate_left
  · have h6' : ((cs1.length : Int) != (cs2.length : Int)) = true := by simp; omega
    have HF : Hid ((⟨k1, nm1, o1, b1, l1, n1, cs1⟩ : SReq) ≠ ⟨k1, nm1, o1, b1, l1, n1, cs2⟩) := fun e => by injection e with _ _ _ _ _ _ e; exact h6 (by rw [e])
    clear h6
    generalize cs1.length = m1 at *
    generalize cs2.length = m2 at *
    clear HA HB
    go_enter Tryd.func21, Tryd.ntmps21
    go_wp2_with fail
    go_ret
    exact same_no HF.out _ _
  rw [← h6] at HB hc1' ⊢
  have HEQ : Hid ((∀ i, i < cs1.length → cs1[i]! = cs2[i]!) → cs1 = cs2) := fun h => by
    refine List.ext_getElem h6 fun i h1 h2 => ?_
    have := h i h1
    rw [List.getElem!_eq_getElem?_getD, List.getElem!_eq_getElem?_getD, List.getElem?_eq_getElem h1, List.getElem?_eq_getElem h2] at this
    exact this
  generalize hm : cs1.length = m at *
  have hx1 := Blk.new w 34 #[.int .i64 k1, .string (str nm1), .string (str o1), .int .i64 b1, .int .i64 l1, .int .i64 n1, .slice A m cap]
  have hx2 := Blk.new (w.alloc (.cells #[.int .i64 k1, .string (str nm1), .string (str o1), .int .i64 b1, .int .i64 l1, .int .i64 n1, .slice A m cap] 34)) 34 #[.int .i64 k1, .string (str nm1), .string (str o1), .int .i64 b1, .int .i64 l1, .int .i64 n1, .slice A' m cap']
  rw [World.size_alloc] at hx2
  have hx1' := hx1.alloc (.cells #[.int .i64 k1, .string (str nm1), .string (str o1), .int .i64 b1, .int .i64 l1, .int .i64 n1, .slice A' m cap'] 34)
  have HX1 := Lib.hid hx1'
  have HX2 := Lib.hid hx2
  clear hm h6 hx1 hx2 hx1'
  go_enter Tryd.func21, Tryd.ntmps21
  go_wp2_with fail
  go_loopw [51] (fun iv wx => ∃ k : Nat, k ≤ m ∧ iv = .int .i64 k ∧ Blk wx w.heap.size 34 #[.int .i64 k1, .string (str nm1), .string (str o1), .int .i64 b1, .int .i64 l1, .int .i64 n1, .slice A m cap] ∧ Blk wx (w.heap.size + 1) 34 #[.int .i64 k1, .string (str nm1), .string (str o1), .int .i64 b1, .int .i64 l1, .int .i64 n1, .slice A' m cap'] ∧ Below w.heap.size w wx ∧ ∀ i, i < k → cs1[i]! = cs2[i]!) (fun iv _ => m - (intOf iv).toNat)
  case atStart => exact ⟨0, Nat.zero_le _, rfl, HX1.out, HX2.out, ((Below.refl _ _).alloc (Nat.le_refl _) _).alloc (by rw [World.size_alloc]; omega) _, fun i hi => absurd hi (Nat.not_lt_zero _)⟩
  case round =>
    obtain ⟨k, hk, rfl, hx1, hx2, hb, heq⟩ := hrel
    have HY1 := Lib.hid hx1
    have HY2 := Lib.hid hx2
    have HBW := Lib.hid hb
    have HE := Lib.hid heq
    by_cases hlt : k < m
    · obtain ⟨b, off, cp, he, _, _, hb1, hcs⟩ := HA.out (by omega)
      injection he with he1 he2 he3
      subst he1 he3
      obtain ⟨c1, c2⟩ := hcs k hlt
      obtain ⟨b', off', cp', he', _, _, hb1', hcs'⟩ := HB.out (by omega)
      injection he' with he1' he2' he3'
      subst he1' he3'
      obtain ⟨c1', c2'⟩ := hcs' k hlt
      have g0 := hx1.cellS (i := 6) rfl
      have g1 := hx2.cellS (i := 6) rfl
      rw [← hb.cell (World.block_lt_of_cell? w _ c1)] at c1
      rw [← hb.cell (World.block_lt_of_cell? w _ c2)] at c2
      rw [← hb.cell (World.block_lt_of_cell? w _ c1')] at c1'
      rw [← hb.cell (World.block_lt_of_cell? w _ c2')] at c2'
      have HNO : Hid (cs1[k]! ≠ cs2[k]! → cs1 ≠ cs2) := fun h e => h (by rw [e])
      have HYES : Hid (cs1[k]! = cs2[k]! → ∀ i, i < k + 1 → cs1[i]! = cs2[i]!) := fun h i hi => by
        rcases Nat.lt_or_ge i k with h1 | h1
        · exact heq i h1
        · obtain rfl : i = k := by omega
          exact h
      generalize cs1[k]! = x at c1 c2 HNO HYES
      generalize cs2[k]! = y at c1' c2' HNO HYES
      have hq : ∀ w, _ := fun w => run_neC x y w
      clear hcs hcs' hx1 hx2 hb heq HA HB
      by_cases hxy : x = y
      · subst hxy
        rw [(eqC_true _ _).2 rfl] at hq
        have HY := Lib.hid (HYES.out rfl)
        clear HNO HYES
        go_wp2_with fail
        go_quiet (fail)
        go_wp2_with fail
        go_roundw
        case rel => exact ⟨k + 1, by omega, by go_num, HY1.out.drewN _, HY2.out.drewN _, below_drewN HBW.out _, HY.out⟩
        case measure => simp [intOf]; omega
      · rw [(eqC_false _ _).2 hxy] at hq
        have HF : Hid ((⟨k1, nm1, o1, b1, l1, n1, cs1⟩ : SReq) ≠ ⟨k1, nm1, o1, b1, l1, n1, cs2⟩) := fun e => by injection e with _ _ _ _ _ _ e; exact HNO.out hxy e
        clear hxy HNO HYES
        go_wp2_with fail
        go_quiet (fail)
        go_wp2_with fail
        go_ret
        exact ⟨false, by simp [HF.out], rfl, below_drewN HBW.out _⟩
    · obtain rfl : k = m := by omega
      have HF : Hid ((⟨k1, nm1, o1, b1, l1, n1, cs1⟩ : SReq) = ⟨k1, nm1, o1, b1, l1, n1, cs2⟩) := by
        have := HEQ.out HE.out
        show _ = _
        rw [this]
      clear hx1 hx2 hb heq
      go_wp2_with fail
      go_ret
      exact ⟨true, by simp [HF.out], rfl, HBW.out⟩
end Go.Proofs.YtkandepkojfblaaDoor
