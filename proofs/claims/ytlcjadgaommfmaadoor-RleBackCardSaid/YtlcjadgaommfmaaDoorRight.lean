/- lifelodgekeep.right. -/
import Derived.Test.YtlcjadgaommfmaaDoorW0
import Derived.Test.YtlcjadgaommfmaaDoorRuleG
import Derived.Test.YtlcjadgaommfmaaDoorHeap
import Derived.Laws.BitsLemmas
import Derived.Laws.Bits64
import Derived.IntWalk
import Derived.BigGuardPart
import Derived.Deep.RegionHeld3
import Derived.Laws.ResultCell
namespace Go.Proofs.YtlcjadgaommfmaaDoor
open Go.RowKit

theorem i64_andNot1_fin : ∀ x : Fin 512, bits .andNot .i64 ((x : Nat) : Int) 1 = (((x : Nat) - (x : Nat) % 2 : Nat) : Int) := by decide +kernel
theorem i64_andNot1 (x : Int) (h0 : 0 ≤ x) (h1 : x < 512) : bits .andNot .i64 x 1 = x - x % 2 := by
  obtain ⟨n, rfl⟩ := Int.eq_ofNat_of_zero_le h0
  have h := i64_andNot1_fin ⟨n, by omega⟩
  simp only at h
  rw [h]; omega

/-- The rule that 'right' makes. -/
def rightB (b : Int) : Int := b % 512 - b % 2
def rightL (l : Int) : Int := l % 512
theorem right_good (b l : Int) : goodR (rightB b) (rightL l) := by unfold goodR rightB rightL; omega

set_option maxRecDepth 100000 in
set_option maxHeartbeats 1600000 in
theorem right_any (w : World) (b l : Int) (hb : -9223372036854775808 ≤ b ∧ b ≤ 9223372036854775807) (hl : -9223372036854775808 ≤ l ∧ l ≤ 9223372036854775807) :
    Calls Tryd.prog 10 #[.agg #[.int .i64 b, .int .i64 l]] w fun e w' => e = .returned (.agg #[.int .i64 (rightB b), .int .i64 (rightL l)]) ∧ Below w.heap.size w w' := by
  have HB := Lib.hid hb
  have HL := Lib.hid hl
  have h1 := Int.emod_nonneg b (show (512 : Int) ≠ 0 by omega)
  have h2 := Int.emod_lt_of_pos b (show (0 : Int) < 512 by omega)
  have ha := i64_andNot1 (b % 512) h1 h2
  have HC1 : Hid (∀ x, (-9223372036854775808 ≤ x ∧ x ≤ 9223372036854775807) → ∀ w : World, Calls Tryd.prog 25 #[.int .i64 x, .int .i64 512] w fun e w' => e = .returned (.int .i64 (x % 512)) ∧ w = w') := fun x hx w => spot_any x 512 (by omega) (by omega) hx.1 hx.2 w
  clear hb hl
  go_enter Tryd.func10, Tryd.ntmps10
  go_wp2_with fail
  go_region_held3 (fun w' => w'.cell? ⟨w.heap.size, 0, none⟩ = some (.int .i64 b) ∧ w'.cell? ⟨w.heap.size, 1, none⟩ = some (.int .i64 l)) (go_keep)
    ((go_at_call 25; refine (HC1.out _ (by first | exact HB.out | exact HL.out) _).mono ?_; rintro e w' ⟨rfl, rfl⟩))
  all_goals (go_wp2_with fail)
  refine bodyPost_ret (v := .agg #[.int .i64 (b % 512 - b % 2), .int .i64 (l % 512)]) (by simp [results, Tryd.results10, go_sem]) rfl ?_
  exact ⟨rfl, (((Below.refl _ _).alloc (Nat.le_refl _) _).alloc (by simp) _).drew⟩
end Go.Proofs.YtlcjadgaommfmaaDoor
