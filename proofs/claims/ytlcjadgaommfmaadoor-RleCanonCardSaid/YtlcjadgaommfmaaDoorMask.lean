/- rule.mask, rule.digits: rising digits. -/
import Derived.Test.YtlcjadgaommfmaaDoorRuleG
import Derived.Test.YtlcjadgaommfmaaDoorStr
import Derived.Laws.Strings3
import Derived.Laws.BytesString
import Derived.Outline
namespace Go.Proofs.YtlcjadgaommfmaaDoor
open Go.RowKit

/-- The mask of rising digits that the bytes begin with, and what is behind. -/
def rise : Nat → List UInt8 → Nat × List UInt8
  | _, [] => (0, [])
  | lo, c :: s => if 48 ≤ c.toNat ∧ c.toNat ≤ 56 ∧ lo ≤ c.toNat - 48 then (2 ^ (c.toNat - 48) + (rise (c.toNat - 48 + 1) s).1, (rise (c.toNat - 48 + 1) s).2) else (0, c :: s)

theorem i64_or_fin : ∀ (d : Fin 9) (a : Fin 256), a.val < 2 ^ d.val → bits .or .i64 ((a.val : Nat) : Int) (wrap64 ((2 : Int) ^ d.val)) = ((a.val + 2 ^ d.val : Nat) : Int) := by decide +kernel
theorem i64_or (d a : Nat) (hd : d ≤ 8) (ha : a < 2 ^ d) : bits .or .i64 (a : Int) (wrap64 ((2 : Int) ^ d)) = ((a + 2 ^ d : Nat) : Int) := by
  have : (2 : Nat) ^ d ≤ 2 ^ 8 := Nat.pow_le_pow_right (by omega) hd
  exact i64_or_fin ⟨d, by omega⟩ ⟨a, by omega⟩ ha

set_option maxRecDepth 100000 in
set_option maxHeartbeats 1600000 in
theorem mask_any (w : World) (l : List UInt8) :
    Calls Tryd.prog 48 #[.string (str l)] w fun e w' => e = .returned (.tuple #[.int .i64 (rise 0 l).1, .string (str (rise 0 l).2)]) ∧ w = w' := by
  go_enter Tryd.func48, Tryd.ntmps48
  go_wp2_with fail
  go_loopw [0, 4, 5] (fun sv mv lv wx => ∃ (s : List UInt8) (acc lo : Nat), sv = .string (str s) ∧ mv = .int .i64 acc ∧ lv = .int .i64 ((lo : Int) - 1) ∧ lo ≤ 9 ∧ acc < 2 ^ lo ∧ (acc + (rise lo s).1, (rise lo s).2) = rise 0 l ∧ wx = w) (fun sv _ _ _ => match sv with | .string s => s.size | _ => 0)
  case atStart => exact ⟨l, 0, 0, rfl, rfl, rfl, by omega, by omega, by simp, rfl⟩
  case round =>
    obtain ⟨s, acc, lo, rfl, rfl, rfl, hlo, hacc, hr, rfl⟩ := hrel
    have HR := Lib.hid hr
    clear hr
    cases s with
    | nil =>
      have hE := str_nil_e
      go_wp2
      go_ret2
      have e := HR.out
      simp only [rise] at e
      rw [← e]
      exact ⟨by simp, rfl⟩
    | cons c s =>
      have hE := str_cons_ne c s
      have hp := str_cons_pos c s
      have hg := str_cons_get c s
      have ht := str_tail c s
      have HC : Hid (∀ n : Nat, ¬ (48 ≤ c.toNat ∧ c.toNat ≤ 56 ∧ lo ≤ c.toNat - 48) → rise lo (c :: s) = (0, c :: s)) := fun _ h => by rw [rise, if_neg h]
      have HD : Hid (48 ≤ c.toNat → c.toNat ≤ 56 → lo ≤ c.toNat - 48 → rise lo (c :: s) = (2 ^ (c.toNat - 48) + (rise (c.toNat - 48 + 1) s).1, (rise (c.toNat - 48 + 1) s).2)) := fun h1 h2 h3 => by rw [rise, if_pos ⟨h1, h2, h3⟩]
      have hc1 : c.toNat < 256 := c.toNat_lt
      by_cases h1 : (48 : Int) ≤ (c.toNat : Int)
      · by_cases h2 : (c.toNat : Int) ≤ 56
        · by_cases h3 : (lo : Int) - 1 < (c.toNat : Int) - 48
          · go_wp2_with fail
            have hd : lo ≤ c.toNat - 48 := by omega
            have hpow : acc < 2 ^ (c.toNat - 48) := Nat.lt_of_lt_of_le hacc (Nat.pow_le_pow_right (by omega) hd)
            have hst := HD.out (by omega) (by omega) hd
            have hr := HR.out
            rw [hst] at hr
            refine ⟨⟨s, acc + 2 ^ (c.toNat - 48), c.toNat - 48 + 1, rfl, by rw [i64_or _ _ (by omega) hpow], by congr 1; omega, by omega, ?_, ?_, trivial⟩, ?_⟩
            · rw [Nat.pow_succ]; omega
            · rw [← hr]; simp only [Nat.add_assoc]
            · show (str s).size < (str (c :: s)).size
              rw [str_size, str_size]; simp
          · go_wp2_with fail
            go_ret2
            have hr := HR.out
            rw [HC.out 0 (by omega)] at hr
            rw [← hr]
            exact ⟨by simp, rfl⟩
        · go_wp2_with fail
          go_ret2
          have hr := HR.out
          rw [HC.out 0 (by omega)] at hr
          rw [← hr]
          exact ⟨by simp, rfl⟩
      · go_wp2_with fail
        go_ret2
        have hr := HR.out
        rw [HC.out 0 (by omega)] at hr
        rw [← hr]
        exact ⟨by simp, rfl⟩
end Go.Proofs.YtlcjadgaommfmaaDoor
