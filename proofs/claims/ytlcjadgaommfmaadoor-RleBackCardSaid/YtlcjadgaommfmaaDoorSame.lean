/- The statements' own helper same. -/
import Derived.Test.YtlcjadgaommfmaaDoorFresh
import Derived.IntWalk
namespace Go.Proofs.YtlcjadgaommfmaaDoor
open Go.RowKit

/-- Two lists that are one are the same. -/
def SamePost (w : World) (e : Ending) (w' : World) : Prop := e = .returned (.bool true) ∧ ∃ d, w' = w.drewN d

set_option maxHeartbeats 800000 in
theorem same_true (w : World) (B B' n : Nat) (va vb : Value) (l : List (Int × Int)) (ha : Rd w B 2 va n (flat l)) (hb : Rd w B' 2 vb n (flat l)) :
    Calls Tryd.prog 14 #[va, vb] w (SamePost w) := by
  obtain ⟨A, cap, rfl, hc1, hc2⟩ := ha.form
  obtain ⟨A', cap', rfl, hc1', hc2'⟩ := hb.form
  obtain ⟨_, hat⟩ := ha.pairs
  obtain ⟨_, hbt⟩ := hb.pairs
  have HA := Lib.hid hat
  have HB := Lib.hid hbt
  unfold maxLen at hc2 hc2'
  clear ha hb hat hbt
  go_enter Tryd.func14, Tryd.ntmps14
  go_wp2
  go_loopw [5] (fun iv wx => ∃ (k d : Nat), k ≤ n ∧ iv = .int .i64 k ∧ wx = w.drewN d) (fun iv _ => n - (intOf iv).toNat)
  case atStart => exact ⟨0, 0, Nat.zero_le _, rfl, rfl⟩
  case round =>
    obtain ⟨k, d, hk, rfl, rfl⟩ := hrel
    by_cases hlt : k < n
    · obtain ⟨b, off, cp, he, _, _, hb1, hcs⟩ := HA.out (by omega)
      injection he with he1 he2 he3
      subst he1 he3
      obtain ⟨c1, c2⟩ := hcs k hlt
      obtain ⟨b', off', cp', he', _, _, hb1', hcs'⟩ := HB.out (by omega)
      injection he' with he1' he2' he3'
      subst he1' he3'
      obtain ⟨c1', c2'⟩ := hcs' k hlt
      generalize l[k]! = c at c1 c2 c1' c2'
      have hq : ∀ w, _ := fun w => run_neC c c w
      rw [(eqC_true _ _).2 rfl] at hq
      clear hcs hcs'
      go_wp2_with fail
      go_quiet (fail)
      go_wp2
      go_roundw
      case rel => exact ⟨k + 1, _, by omega, by go_num, rfl⟩
      case measure => simp [intOf]; omega
    · go_wp2
      go_ret
      exact ⟨rfl, d, rfl⟩
end Go.Proofs.YtlcjadgaommfmaaDoor
