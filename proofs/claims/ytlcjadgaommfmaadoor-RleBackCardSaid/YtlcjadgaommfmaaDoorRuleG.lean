/- rule.Good. -/
import Derived.Test.YtlcjadgaommfmaaDoorRows
import Derived.Test.YtlcjadgaommfmaaDoorHeap
import Derived.Laws.BitsLemmas
import Derived.Laws.Bits64
import Derived.IntWalk
import Derived.BigGuardPart
import Derived.Deep.RegionHeld3
import Derived.Laws.ResultCell
namespace Go.Proofs.YtlcjadgaommfmaaDoor
open Go.RowKit

theorem i64_and1 (x : Int) (h0 : 0 ≤ x) (h1 : x < 9223372036854775808) : bits .and .i64 x 1 = x % 2 :=
  bits_mask .i64 63 (by decide) (fun n a b => by rw [IntKind.wrap_i64]; omega) 1 (by decide) x h0 h1

/-- A rule that is one. -/
def goodR (b l : Int) : Prop := (0 ≤ b ∧ b < 512) ∧ (0 ≤ l ∧ l < 512) ∧ b % 2 = 0

set_option maxRecDepth 100000 in
theorem good_true (w : World) (b l : Int) (h : goodR b l) :
    Calls Tryd.prog 38 #[.agg #[.int .i64 b, .int .i64 l]] w fun e w' => e = .returned (.bool true) ∧ Below w.heap.size w w' := by
  obtain ⟨⟨h1, h2⟩, ⟨h3, h4⟩, h5⟩ := h
  have ha := i64_and1 b h1 (by omega)
  rw [h5] at ha
  clear h5
  go_enter Tryd.func38, Tryd.ntmps38
  go_wp2
  go_ret
  exact ⟨rfl, (Below.refl _ _).alloc (Nat.le_refl _) _⟩

set_option maxRecDepth 100000 in
theorem good_false (w : World) (b l : Int) (hb : -9223372036854775808 ≤ b ∧ b ≤ 9223372036854775807) (h : ¬ goodR b l) :
    Calls Tryd.prog 38 #[.agg #[.int .i64 b, .int .i64 l]] w fun e w' => e = .returned (.bool false) ∧ Below w.heap.size w w' := by
  obtain ⟨hb1, hb2⟩ := hb
  unfold goodR at h
  by_cases h1 : 0 ≤ b
  · by_cases h2 : b < 512
    · by_cases h3 : 0 ≤ l
      · by_cases h4 : l < 512
        · have h5 : b % 2 = 1 := by
            rcases Int.emod_two_eq b with e | e
            · exact absurd ⟨⟨h1, h2⟩, ⟨h3, h4⟩, e⟩ h
            · exact e
          have ha := i64_and1 b h1 (by omega)
          rw [h5] at ha
          clear h5 h
          go_enter Tryd.func38, Tryd.ntmps38
          go_wp2
          go_ret
          exact ⟨rfl, (Below.refl _ _).alloc (Nat.le_refl _) _⟩
        · clear h
          go_enter Tryd.func38, Tryd.ntmps38
          go_wp2
          go_ret
          exact ⟨rfl, (Below.refl _ _).alloc (Nat.le_refl _) _⟩
      · clear h
        go_enter Tryd.func38, Tryd.ntmps38
        go_wp2
        go_ret
        exact ⟨rfl, (Below.refl _ _).alloc (Nat.le_refl _) _⟩
    · clear h
      go_enter Tryd.func38, Tryd.ntmps38
      go_wp2
      go_ret
      exact ⟨rfl, (Below.refl _ _).alloc (Nat.le_refl _) _⟩
  · clear h
    go_enter Tryd.func38, Tryd.ntmps38
    go_wp2
    go_ret
    exact ⟨rfl, (Below.refl _ _).alloc (Nat.le_refl _) _⟩

theorem bit_ret (b : Int) (n : Nat) (h0 : 0 ≤ b) (h1 : b < 512) : (bits .and .i64 (b / 2 ^ n) 1 == 1) = (b / 2 ^ n % 2 == 1) := by
  have e1 : 0 ≤ b / 2 ^ n := Int.ediv_nonneg h0 (by exact_mod_cast Nat.zero_le _)
  have e2 : b / 2 ^ n ≤ b := Int.ediv_le_self _ h0
  rw [i64_and1 _ e1 (by omega)]

/-- Bit n of a mask. -/
def bitB (m : Int) (n : Nat) : Bool := m / 2 ^ n % 2 == 1
end Go.Proofs.YtlcjadgaommfmaaDoor
