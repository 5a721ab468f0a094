/- First walks: spot. -/
import Derived.Test.YtlcjadgaommfmaaDoorRows
import Derived.WalkKit
import Derived.WalkSpells
import Derived.WalkLawsBesides
import Derived.Handy
import Derived.Lib.Hide
namespace Go.Proofs.YtlcjadgaommfmaaDoor
open Go.RowKit

theorem tmod_spot (v n : Int) (hn : 1 ≤ n) : (if v.tmod n < 0 then v.tmod n + n else v.tmod n) = v % n := by
  rcases Int.lt_or_le v 0 with h | h
  · have e : v.tmod n = -((-v) % n) := by
      have : v = -(-v) := by omega
      rw [this, Int.neg_tmod, Int.tmod_eq_emod_of_nonneg (by omega)]; simp
    have h1 := Int.emod_nonneg v (show n ≠ 0 by omega)
    have h2 := Int.emod_lt_of_pos v (show 0 < n by omega)
    have h3 := Int.emod_nonneg (-v) (show n ≠ 0 by omega)
    have h4 := Int.emod_lt_of_pos (-v) (show 0 < n by omega)
    have h5 := Int.mul_ediv_add_emod v n
    have h6 := Int.mul_ediv_add_emod (-v) n
    have h7 : n * (v / n + (-v) / n) + (v % n + (-v) % n) = 0 := by rw [Int.mul_add]; omega
    rw [e]
    by_cases hz : (-v) % n = 0
    · rw [hz] at h7 ⊢
      have : (v % n) % n = 0 := by
        have : v % n = n * (-(v / n + (-v) / n)) := by rw [Int.mul_neg]; omega
        rw [this]; simp
      rw [Int.emod_emod_of_dvd _ (Int.dvd_refl n)] at this
      simp [this]
    · have hlt : -(-v % n) < 0 := by omega
      rw [if_pos hlt]
      have : (v % n + (-v) % n) % n = 0 := by
        have : v % n + (-v) % n = n * (-(v / n + (-v) / n)) := by rw [Int.mul_neg]; omega
        rw [this]; simp
      obtain ⟨k, hk⟩ := Int.dvd_of_emod_eq_zero this
      have : k = 1 := by
        have k1 : n * k < n * 2 := by omega
        have k2 : n * 0 < n * k := by omega
        have := Int.lt_of_mul_lt_mul_left k1 (by omega)
        have := Int.lt_of_mul_lt_mul_left k2 (by omega)
        omega
      subst this; omega
  · rw [Int.tmod_eq_emod_of_nonneg h, if_neg]
    have := Int.emod_nonneg v (show n ≠ 0 by omega); omega

theorem spot_any (v n : Int) (hn : 1 ≤ n) (hn' : n ≤ 4611686018427387904) (_hv : -9223372036854775808 ≤ v) (_hv' : v ≤ 9223372036854775807) (w : World) :
    Calls Tryd.prog 25 #[.int .i64 v, .int .i64 n] w fun e w' => e = .returned (.int .i64 (v % n)) ∧ w = w' := by
  have h1 : -n < v.tmod n := by have := Int.lt_tmod_of_pos v (show 0 < n by omega); exact this
  have h2 : v.tmod n < n := Int.tmod_lt_of_pos v (by omega)
  have hs := tmod_spot v n hn
  have hn0 : (n == 0) = false := by simp; omega
  by_cases hneg : v.tmod n < 0
  · rw [if_pos hneg] at hs
    have H := Lib.hid hs; clear hs
    go_enter Tryd.func25, Tryd.ntmps25
    go_wp2
    go_ret
    exact ⟨by rw [H.out]; rfl, rfl⟩
  · rw [if_neg hneg] at hs
    have H := Lib.hid hs; clear hs
    go_enter Tryd.func25, Tryd.ntmps25
    go_wp2
    go_ret
    exact ⟨by rw [H.out]; rfl, rfl⟩
end Go.Proofs.YtlcjadgaommfmaaDoor
