/- rule.Good, rule.Lives; lifelodgekeep.right. -/
import Derived.Test.YtkandepkojfblaaW0
import Derived.Test.YtkandepkojfblaaHeap
import Derived.Laws.BitsLemmas
import Derived.Laws.Bits64
import Derived.IntWalk
import Derived.BigGuardPart
import Derived.Deep.RegionHeld3
import Derived.Laws.ResultCell
namespace Go.Proofs.Ytkandepkojfblaa
open Go.RowKit

theorem i64_and1 (x : Int) (h0 : 0 ≤ x) (h1 : x < 9223372036854775808) : bits .and .i64 x 1 = x % 2 :=
  bits_mask .i64 63 (by decide) (fun n a b => by rw [IntKind.wrap_i64]; omega) 1 (by decide) x h0 h1

/-- A rule that is one. -/
def goodR (b l : Int) : Prop := (0 ≤ b ∧ b < 512) ∧ (0 ≤ l ∧ l < 512) ∧ b % 2 = 0

set_option maxRecDepth 100000 in
theorem good_true (w : World) (b l : Int) (h : goodR b l) :
    Calls Try.prog 14 #[.agg #[.int .i64 b, .int .i64 l]] w fun e w' => e = .returned (.bool true) ∧ Below w.heap.size w w' := by
  obtain ⟨⟨h1, h2⟩, ⟨h3, h4⟩, h5⟩ := h
  have ha := i64_and1 b h1 (by omega)
  rw [h5] at ha
  clear h5
  go_enter Try.func14, Try.ntmps14
  go_wp2
  go_ret
  exact ⟨rfl, (Below.refl _ _).alloc (Nat.le_refl _) _⟩

set_option maxRecDepth 100000 in
theorem good_false (w : World) (b l : Int) (hb : -9223372036854775808 ≤ b ∧ b ≤ 9223372036854775807) (h : ¬ goodR b l) :
    Calls Try.prog 14 #[.agg #[.int .i64 b, .int .i64 l]] w fun e w' => e = .returned (.bool false) ∧ Below w.heap.size w w' := by
  obtain ⟨hb1, hb2⟩ := hb
  unfold goodR at h
  by_cases h1 : 0 ≤ b
  · by_cases h2 : b < 512
    · by_cases h3 : 0 ≤ l
      · by_cases h4 : l < 512
        · have h5 : b % 2 = 1 := by
            rcases Int.emod_two_eq b with e | e
            · exact absurd ⟨⟨h1, h2⟩, ⟨h3, h4⟩, e⟩ h
            · exact e
          have ha := i64_and1 b h1 (by omega)
          rw [h5] at ha
          clear h5 h
          go_enter Try.func14, Try.ntmps14
          go_wp2
          go_ret
          exact ⟨rfl, (Below.refl _ _).alloc (Nat.le_refl _) _⟩
        · clear h
          go_enter Try.func14, Try.ntmps14
          go_wp2
          go_ret
          exact ⟨rfl, (Below.refl _ _).alloc (Nat.le_refl _) _⟩
      · clear h
        go_enter Try.func14, Try.ntmps14
        go_wp2
        go_ret
        exact ⟨rfl, (Below.refl _ _).alloc (Nat.le_refl _) _⟩
    · clear h
      go_enter Try.func14, Try.ntmps14
      go_wp2
      go_ret
      exact ⟨rfl, (Below.refl _ _).alloc (Nat.le_refl _) _⟩
  · clear h
    go_enter Try.func14, Try.ntmps14
    go_wp2
    go_ret
    exact ⟨rfl, (Below.refl _ _).alloc (Nat.le_refl _) _⟩

theorem bit_ret (b : Int) (n : Nat) (h0 : 0 ≤ b) (h1 : b < 512) : (bits .and .i64 (b / 2 ^ n) 1 == 1) = (b / 2 ^ n % 2 == 1) := by
  have e1 : 0 ≤ b / 2 ^ n := Int.ediv_nonneg h0 (by exact_mod_cast Nat.zero_le _)
  have e2 : b / 2 ^ n ≤ b := Int.ediv_le_self _ h0
  rw [i64_and1 _ e1 (by omega)]

/-- Bit n of a mask. -/
def bitB (m : Int) (n : Nat) : Bool := m / 2 ^ n % 2 == 1

set_option maxRecDepth 100000 in
theorem lives_any (w : World) (b l : Int) (hb : 0 ≤ b ∧ b < 512) (hl : 0 ≤ l ∧ l < 512) (alive : Bool) (n : Nat) (hn : n ≤ 8) :
    Calls Try.prog 25 #[.agg #[.int .i64 b, .int .i64 l], .bool alive, .int .i64 n] w fun e w' => e = .returned (.bool (bitB (if alive then l else b) n)) ∧ Below w.heap.size w w' := by
  obtain ⟨b1, b2⟩ := hb
  obtain ⟨l1, l2⟩ := hl
  have hn' : (n : Int) ≤ 8 := by omega
  clear hn
  cases alive
  · go_enter Try.func25, Try.ntmps25
    go_wp2
    go_ret
    exact ⟨congrArg (fun x => Ending.returned (.bool x)) (bit_ret b n b1 b2), (Below.refl _ _).alloc (Nat.le_refl _) _⟩
  · go_enter Try.func25, Try.ntmps25
    go_wp2
    go_ret
    exact ⟨congrArg (fun x => Ending.returned (.bool x)) (bit_ret l n l1 l2), (Below.refl _ _).alloc (Nat.le_refl _) _⟩

theorem i64_andNot1_fin : ∀ x : Fin 512, bits .andNot .i64 ((x : Nat) : Int) 1 = (((x : Nat) - (x : Nat) % 2 : Nat) : Int) := by decide +kernel
theorem i64_andNot1 (x : Int) (h0 : 0 ≤ x) (h1 : x < 512) : bits .andNot .i64 x 1 = x - x % 2 := by
  obtain ⟨n, rfl⟩ := Int.eq_ofNat_of_zero_le h0
  have h := i64_andNot1_fin ⟨n, by omega⟩
  simp only at h
  rw [h]; omega

/-- The rule that 'right' makes. -/
def rightB (b : Int) : Int := b % 512 - b % 2
def rightL (l : Int) : Int := l % 512
theorem right_good (b l : Int) : goodR (rightB b) (rightL l) := by unfold goodR rightB rightL; omega

set_option maxRecDepth 100000 in
set_option maxHeartbeats 1600000 in
theorem right_any (w : World) (b l : Int) (hb : -9223372036854775808 ≤ b ∧ b ≤ 9223372036854775807) (hl : -9223372036854775808 ≤ l ∧ l ≤ 9223372036854775807) :
    Calls Try.prog 6 #[.agg #[.int .i64 b, .int .i64 l]] w fun e w' => e = .returned (.agg #[.int .i64 (rightB b), .int .i64 (rightL l)]) ∧ Below w.heap.size w w' := by
  have HB := Lib.hid hb
  have HL := Lib.hid hl
  have h1 := Int.emod_nonneg b (show (512 : Int) ≠ 0 by omega)
  have h2 := Int.emod_lt_of_pos b (show (0 : Int) < 512 by omega)
  have ha := i64_andNot1 (b % 512) h1 h2
  have HC1 : Hid (∀ x, (-9223372036854775808 ≤ x ∧ x ≤ 9223372036854775807) → ∀ w : World, Calls Try.prog 8 #[.int .i64 x, .int .i64 512] w fun e w' => e = .returned (.int .i64 (x % 512)) ∧ w = w') := fun x hx w => spot_any x 512 (by omega) (by omega) hx.1 hx.2 w
  clear hb hl
  go_enter Try.func6, Try.ntmps6
  go_wp2_with fail
  go_region_held3 (fun w' => w'.cell? ⟨w.heap.size, 0, none⟩ = some (.int .i64 b) ∧ w'.cell? ⟨w.heap.size, 1, none⟩ = some (.int .i64 l)) (go_keep)
    ((go_at_call 8; refine (HC1.out _ (by first | exact HB.out | exact HL.out) _).mono ?_; rintro e w' ⟨rfl, rfl⟩))
  all_goals (go_wp2_with fail)
  refine bodyPost_ret (v := .agg #[.int .i64 (b % 512 - b % 2), .int .i64 (l % 512)]) (by simp [results, Try.results6, go_sem]) rfl ?_
  exact ⟨rfl, (((Below.refl _ _).alloc (Nat.le_refl _) _).alloc (by simp) _).drew⟩
end Go.Proofs.Ytkandepkojfblaa
