/- cmp.Compare, cmp.Or of two, plane.order, plane.within: what they answer. -/
import Derived.Test.YtlcjadgaommfmaaDoorRows
import Derived.Test.YtlcjadgaommfmaaDoorApp
import Derived.WalkKit
import Derived.WalkSpells
import Derived.BigQuiet
import Derived.Deep.QuietTactic
import Derived.Deep.RegionHeld3
import Derived.Shelf.SlSortCmp.WholeK
namespace Go.Proofs.YtlcjadgaommfmaaDoor
open Go.RowKit

/-- -1, 0, 1: as x is less than, equal to, greater than y. -/
def cmpZ (x y : Int) : Int := if x < y then -1 else if y < x then 1 else 0
/-- By row, then by column. -/
def ordZ (a b : Int × Int) : Int := if cmpZ a.2 b.2 = 0 then cmpZ a.1 b.1 else cmpZ a.2 b.2
def ltC (a b : Int × Int) : Prop := a.2 < b.2 ∨ a.2 = b.2 ∧ a.1 < b.1
theorem cmpZ_zero (x y : Int) : cmpZ x y = 0 ↔ x = y := by unfold cmpZ; split <;> (try split) <;> omega
theorem cmpZ_neg (x y : Int) : cmpZ x y < 0 ↔ x < y := by unfold cmpZ; split <;> (try split) <;> omega
theorem cmpZ_pos (x y : Int) : 0 < cmpZ x y ↔ y < x := by unfold cmpZ; split <;> (try split) <;> omega
theorem ordZ_neg (a b : Int × Int) : ordZ a b < 0 ↔ ltC a b := by
  unfold ordZ ltC
  have h1 := cmpZ_zero a.2 b.2
  have h2 := cmpZ_neg a.2 b.2
  have h3 := cmpZ_neg a.1 b.1
  split <;> omega
theorem ordZ_pos (a b : Int × Int) : 0 < ordZ a b ↔ ltC b a := by
  unfold ordZ ltC
  have h1 := cmpZ_zero a.2 b.2
  have h2 := cmpZ_pos a.2 b.2
  have h3 := cmpZ_pos a.1 b.1
  split <;> omega
theorem ordZ_zero (a b : Int × Int) : ordZ a b = 0 ↔ a = b := by
  unfold ordZ
  have h1 := cmpZ_zero a.2 b.2
  have h3 := cmpZ_zero a.1 b.1
  constructor
  · intro h; split at h
    · exact Prod.ext (by omega) (by omega)
    · omega
  · rintro rfl; simp [(cmpZ_zero _ _).2]

theorem isNaN_any (x : Int) (w : World) : Calls Tryd.prog 62 #[.int .i64 x] w fun e w' => e = .returned (.bool false) ∧ w = w' := by
  go_enter Tryd.func62, Tryd.ntmps62
  go_wp2
  go_ret
  exact ⟨by simp, rfl⟩

theorem compare_any (x y : Int) (w : World) : Calls Tryd.prog 45 #[.int .i64 x, .int .i64 y] w fun e w' => e = .returned (.int .i64 (cmpZ x y)) ∧ w = w' := by
  by_cases h1 : x < y
  · have e : cmpZ x y = -1 := by unfold cmpZ; rw [if_pos h1]
    rw [e]
    go_enter Tryd.func45, Tryd.ntmps45
    go_wp2_with (go_at_call 62; refine (isNaN_any _ _).mono ?_; rintro e w' ⟨rfl, rfl⟩)
    go_ret
    exact ⟨rfl, rfl⟩
  · by_cases h2 : y < x
    · have e : cmpZ x y = 1 := by unfold cmpZ; rw [if_neg h1, if_pos h2]
      rw [e]
      go_enter Tryd.func45, Tryd.ntmps45
      go_wp2_with (go_at_call 62; refine (isNaN_any _ _).mono ?_; rintro e w' ⟨rfl, rfl⟩)
      go_ret
      exact ⟨rfl, rfl⟩
    · have e : cmpZ x y = 0 := by unfold cmpZ; rw [if_neg h1, if_neg h2]
      rw [e]
      go_enter Tryd.func45, Tryd.ntmps45
      go_wp2_with (go_at_call 62; refine (isNaN_any _ _).mono ?_; rintro e w' ⟨rfl, rfl⟩)
      go_ret
      exact ⟨rfl, rfl⟩

def orZ (x y : Int) : Int := if x = 0 then y else x
theorem or_two (b : Nat) (x y : Int) (w : World) (h0 : w.cell? ⟨b, 0, none⟩ = some (.int .i64 x)) (h1 : w.cell? ⟨b, 1, none⟩ = some (.int .i64 y)) :
    Calls Tryd.prog 44 #[.slice (some ⟨b, 0, none⟩) 2 2] w fun e w' => e = .returned (.int .i64 (orZ x y)) ∧ w = w' := by
  by_cases hx : x = 0
  · subst hx
    rw [show orZ 0 y = y from rfl]
    by_cases hy : y = 0
    · subst hy
      go_enter Tryd.func44, Tryd.ntmps44
      go_wp2
      refine wp_loop_rounds 3 ?_; rw [rounds_succ]
      go_wp2
      rw [rounds_succ]
      go_wp2
      rw [rounds_succ]
      go_wp2
      go_ret
      exact ⟨rfl, rfl⟩
    · have hy' : (y != 0) = true := by simp; omega
      clear hy
      go_enter Tryd.func44, Tryd.ntmps44
      go_wp2
      refine wp_loop_rounds 2 ?_; rw [rounds_succ]
      go_wp2
      rw [rounds_succ]
      go_wp2
      go_ret
      exact ⟨rfl, rfl⟩
  · have hx' : (x != 0) = true := by simp; omega
    rw [show orZ x y = x by unfold orZ; rw [if_neg hx]]
    clear hx
    go_enter Tryd.func44, Tryd.ntmps44
    go_wp2
    refine wp_loop_rounds 1 ?_; rw [rounds_succ]
    go_wp2
    go_ret
    exact ⟨rfl, rfl⟩

theorem within_any (x : Int) (w : World) : Calls Tryd.prog 26 #[.int .i64 x] w fun e w' => e = .returned (.bool (decide (-1099511627776 < x ∧ x < 1099511627776))) ∧ w = w' := by
  by_cases h1 : -1099511627776 < x
  · by_cases h2 : x < 1099511627776
    · have e : decide (-1099511627776 < x ∧ x < 1099511627776) = true := by simp [h1, h2]
      rw [e]
      go_enter Tryd.func26, Tryd.ntmps26
      go_wp2
      go_ret
      exact ⟨by simp, rfl⟩
    · have e : decide (-1099511627776 < x ∧ x < 1099511627776) = false := by simp [h2]
      rw [e]
      go_enter Tryd.func26, Tryd.ntmps26
      go_wp2
      go_ret
      exact ⟨by simp, rfl⟩
  · have e : decide (-1099511627776 < x ∧ x < 1099511627776) = false := by simp [h1]
    rw [e]
    go_enter Tryd.func26, Tryd.ntmps26
    go_wp2
    go_ret
    exact ⟨by simp, rfl⟩

open Go.Shelf Go.Sort Go.Lib in
set_option maxHeartbeats 1600000 in
theorem order_any (a b : Int × Int) (W : World) : Calls Tryd.prog 29 #[.agg #[.int .i64 a.1, .int .i64 a.2], .agg #[.int .i64 b.1, .int .i64 b.2]] W fun e w' =>
    e = .returned (.int .i64 (ordZ a b)) ∧ ∃ q os', w' = grow (W.drewN q) os' := by
  obtain ⟨ax, ay⟩ := a
  obtain ⟨bx, bY⟩ := b
  have e : ordZ (ax, ay) (bx, bY) = orZ (cmpZ ay bY) (cmpZ ax bx) := rfl
  rw [e]
  clear e
  generalize hz1 : cmpZ ay bY = z1
  generalize hz2 : cmpZ ax bx = z2
  have c1 : ∀ w, Calls Tryd.prog 45 #[.int .i64 ay, .int .i64 bY] w fun e w' => e = .returned (.int .i64 z1) ∧ w = w' := fun w => hz1 ▸ compare_any ay bY w
  have c2 : ∀ w, Calls Tryd.prog 45 #[.int .i64 ax, .int .i64 bx] w fun e w' => e = .returned (.int .i64 z2) ∧ w = w' := fun w => hz2 ▸ compare_any ax bx w
  clear hz1 hz2
  have H1 := Lib.hid c1
  have H2 := Lib.hid c2
  clear c1 c2
  go_enter Tryd.func29, Tryd.ntmps29
  go_wp2_with fail
  go_region_held3 (fun w' => w'.cell? ⟨W.heap.size, 0, none⟩ = some (.int .i64 ax) ∧ w'.cell? ⟨W.heap.size, 1, none⟩ = some (.int .i64 ay) ∧ w'.cell? ⟨W.heap.size + 1, 0, none⟩ = some (.int .i64 bx) ∧ w'.cell? ⟨W.heap.size + 1, 1, none⟩ = some (.int .i64 bY)) (simp [go_sem, World.cell?_alloc_past])
    (first
      | (go_at_call_of 45 (Value.int .i64 ay); refine (H1.out _).mono ?_; rintro e w' ⟨rfl, rfl⟩)
      | (go_at_call_of 45 (Value.int .i64 ax); refine (H2.out _).mono ?_; rintro e w' ⟨rfl, rfl⟩)
      | (go_at_call 44; refine (or_two _ z1 z2 _ (by simp [go_sem]) (by simp [go_sem])).mono ?_; rintro e w' ⟨rfl, rfl⟩))
  go_wp2
  go_ret
  exact ⟨rfl, 1, _, by rw [alloc_eq_grow, alloc_eq_grow, alloc_eq_grow, grow_grow, grow_grow]; rfl⟩
end Go.Proofs.YtlcjadgaommfmaaDoor
