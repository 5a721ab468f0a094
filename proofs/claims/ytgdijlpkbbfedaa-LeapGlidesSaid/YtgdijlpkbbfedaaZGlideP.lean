/- leap: moved cells; their squares and steps. No program is named here. · LeapGlides: the plain law: a glider glides. · LeapGlides: which squares a glider has. · LeapStill: the plain law: a block of four cells stays, and how many squares it has. · LeapStill: all squares and notes of a block of four cells. · leap: a window that meets no cell is empty. · leap: what a leap asks for lies in a list that has all its windows. No program is named here. · LeapGlides: all squares and notes of a glider's leaps. · LeapStill: the walk. · A slice that no arena's work touches. · LeapGlides: the walk. · lifelodgekeep.LeapGlides: whatever its arguments: it returns true, and its arguments read behind the call as they read before. -/
import Derived.Test.YtgdijlpkbbfedaaZ5
import Derived.Test.YtgdijlpkbbfedaaZ16
import Derived.Test.YtgdijlpkbbfedaaZ13
import Derived.Test.YtgdijlpkbbfedaaZ1
import Derived.Test.YtgdijlpkbbfedaaZ6
import Derived.Test.YtgdijlpkbbfedaaZ12
import Derived.Test.YtgdijlpkbbfedaaZ15

namespace Go.Proofs.Ytgdijlpkbbfedaa
open Go.RowKit

/-- Moved cells. -/
def moveP (dx dy : Int) (P : Int → Int → Bool) (x y : Int) : Bool := P (x - dx) (y - dy)
theorem ev_move (b l dx dy : Int) (P : Int → Int → Bool) : ev b l (moveP dx dy P) = moveP dx dy (ev b l P) := by
  funext x y
  unfold ev nearP oneP moveP
  have e : ∀ a d c : Int, a - d - c = a - c - d ∧ a + d - c = a - c + d := fun a d c => by omega
  simp only [e]
theorem evN_move (b l dx dy : Int) (P : Int → Int → Bool) : ∀ m, evN b l m (moveP dx dy P) = moveP dx dy (evN b l m P)
  | 0 => rfl
  | m + 1 => by rw [evN, evN_move b l dx dy P m, ev_move]; rfl
theorem moveP_moveP (a b c d : Int) (P : Int → Int → Bool) : moveP a b (moveP c d P) = moveP (c + a) (d + b) P := by
  funext x y
  unfold moveP
  congr 1 <;> omega
theorem treeOf_move (a b : Int) (P : Int → Int → Bool) : ∀ (n : Nat) (x y : Int), treeOf (moveP a b P) n x y = treeOf P n (x - a) (y - b)
  | 0, _, _ => rfl
  | n + 1, x, y => by
    simp only [treeOf]
    rw [treeOf_move a b P n, treeOf_move a b P n, treeOf_move a b P n, treeOf_move a b P n]
    rw [show x + 2 ^ n - a = x - a + 2 ^ n by omega, show y + 2 ^ n - b = y - b + 2 ^ n by omega]
end Go.Proofs.Ytgdijlpkbbfedaa

namespace Go.Proofs.Ytgdijlpkbbfedaa
open Go.RowKit

def gl (k : Nat) : List (Int × Int) :=
  if k = 0 then [(1, 0), (2, 1), (0, 2), (1, 2), (2, 2)] else if k = 1 then [(0, 1), (2, 1), (1, 2), (2, 2), (1, 3)] else if k = 2 then [(2, 1), (0, 2), (2, 2), (1, 3), (2, 3)] else if k = 3 then [(1, 1), (2, 2), (3, 2), (1, 3), (2, 3)] else [(2, 1), (3, 2), (1, 3), (2, 3), (3, 3)]
theorem gl_span (k : Nat) : Span (setOfL (gl k)) 0 4 := fun a c hp => by
  have hm : (a, c) ∈ gl k := of_decide_eq_true hp
  unfold gl at hm
  split at hm
  · simp at hm; omega
  · split at hm
    · simp at hm; omega
    · split at hm
      · simp at hm; omega
      · split at hm
        · simp at hm; omega
        · simp at hm; omega
theorem gl_near : ∀ k : Fin 4, ∀ a c : Fin 8, ev 8 12 (setOfL (gl k.val)) ((a.val : Int) - 2) ((c.val : Int) - 2) = setOfL (gl (k.val + 1)) ((a.val : Int) - 2) ((c.val : Int) - 2) := by decide +kernel
theorem gl_step (k : Nat) (hk : k < 4) : ev 8 12 (setOfL (gl k)) = setOfL (gl (k + 1)) := by
  funext x y
  by_cases h : (-2 ≤ x ∧ x < 6) ∧ -2 ≤ y ∧ y < 6
  · have := gl_near ⟨k, hk⟩ ⟨(x + 2).toNat, by omega⟩ ⟨(y + 2).toNat, by omega⟩
    simp only at this
    rw [show (((x + 2).toNat : Nat) : Int) - 2 = x by omega, show (((y + 2).toNat : Nat) : Int) - 2 = y by omega] at this
    exact this
  · have h1 := (gl_span k).ev (b := 8) (l := 12) (by unfold goodR; omega)
    have h2 := gl_span (k + 1)
    have e1 : ev 8 12 (setOfL (gl k)) x y = false := by
      cases q : ev 8 12 (setOfL (gl k)) x y
      · rfl
      · have := h1 x y q; omega
    have e2 : setOfL (gl (k + 1)) x y = false := by
      cases q : setOfL (gl (k + 1)) x y
      · rfl
      · have := h2 x y q; omega
    rw [e1, e2]
theorem gl_four : setOfL (gl 4) = moveP 1 1 (setOfL (gl 0)) := by
  funext x y
  unfold setOfL moveP gl
  refine decide_eq_decide.2 ?_
  simp
  omega
/-- Four steps move it by one. -/
theorem gl_glide : ∀ q : Nat, evN 8 12 (4 * q) (setOfL (gl 0)) = moveP q q (setOfL (gl 0))
  | 0 => by
    funext x y
    unfold moveP
    simp [evN]
  | q + 1 => by
    have h4 : evN 8 12 4 (setOfL (gl 0)) = moveP 1 1 (setOfL (gl 0)) := by
      rw [← gl_four]
      show ev 8 12 (ev 8 12 (ev 8 12 (ev 8 12 (setOfL (gl 0))))) = _
      rw [gl_step 0 (by decide), gl_step 1 (by decide), gl_step 2 (by decide), gl_step 3 (by decide)]
    rw [show 4 * (q + 1) = 4 * q + 4 by omega, ← evN_add, gl_glide q, evN_move, h4, moveP_moveP]
    congr 1 <;> omega
end Go.Proofs.Ytgdijlpkbbfedaa

namespace Go.Proofs.Ytgdijlpkbbfedaa
open Go.RowKit

/-- A window on the half grid of a leap, seen from the glider. -/
theorem gl_window (q i μ : Nat) {x y : Int} (hx : (2 : Int) ^ (μ + 3) ∣ x - i * 2 ^ (μ + 2)) (hy : (2 : Int) ^ (μ + 3) ∣ y - i * 2 ^ (μ + 2)) :
    ∃ u k : Int, treeOf (evN 8 12 (i * 2 ^ (μ + 2)) (moveP q q (setOfL (gl 0)))) (μ + 4) x y = treeOf (setOfL (gl 0)) (μ + 4) (2 ^ μ * u - q) (2 ^ μ * (u + 8 * k) - q) := by
  have e4 : i * 2 ^ (μ + 2) = 4 * (i * 2 ^ μ) := by rw [Nat.pow_succ, Nat.pow_succ, Nat.mul_assoc, Nat.mul_left_comm 4]; congr 1; omega
  rw [e4, evN_move, gl_glide, moveP_moveP, treeOf_move]
  obtain ⟨a, ha⟩ := hx
  obtain ⟨c, hc⟩ := hy
  have p2 : (2 : Int) ^ (μ + 2) = 2 ^ μ * 4 := by rw [Int.pow_succ, Int.pow_succ]; omega
  have p3 : (2 : Int) ^ (μ + 3) = 2 ^ μ * 8 := by rw [Int.pow_succ, p2]; omega
  have ci : ((i * 2 ^ μ : Nat) : Int) = (i : Int) * 2 ^ μ := by simp
  rw [p2, p3] at ha hc
  rw [ci]
  refine ⟨3 * i + 8 * a, c - a, ?_⟩
  have e1 : x - ((i : Int) * 2 ^ μ + q) = 2 ^ μ * (3 * i + 8 * a) - q := by
    rw [Int.mul_add, ← Int.mul_assoc, ← Int.mul_assoc]
    rw [← Int.mul_assoc] at ha
    rw [show (2 : Int) ^ μ * 3 * i = 3 * (i * 2 ^ μ) by rw [Int.mul_comm _ 3, Int.mul_assoc, Int.mul_comm (2 ^ μ)]]
    rw [show (i : Int) * 2 ^ μ * 4 = 4 * (i * 2 ^ μ) by rw [Int.mul_comm]] at ha
    omega
  have e2 : y - ((i : Int) * 2 ^ μ + q) = 2 ^ μ * (3 * i + 8 * a + 8 * (c - a)) - q := by
    rw [show 3 * (i : Int) + 8 * a + 8 * (c - a) = 3 * i + 8 * c by omega, Int.mul_add, ← Int.mul_assoc, ← Int.mul_assoc]
    rw [← Int.mul_assoc] at hc
    rw [show (2 : Int) ^ μ * 3 * i = 3 * (i * 2 ^ μ) by rw [Int.mul_comm _ 3, Int.mul_assoc, Int.mul_comm (2 ^ μ)]]
    rw [show (i : Int) * 2 ^ μ * 4 = 4 * (i * 2 ^ μ) by rw [Int.mul_comm]] at hc
    omega
  rw [e1, e2]
end Go.Proofs.Ytgdijlpkbbfedaa

namespace Go.Proofs.Ytgdijlpkbbfedaa
open Go.RowKit

def blockP (dx dy : Int) (x y : Int) : Bool := decide ((dx ≤ x ∧ x ≤ dx + 1) ∧ dy ≤ y ∧ y ≤ dy + 1)
theorem block_one (dx dy a c : Int) : oneP (blockP dx dy) a c = if (dx ≤ a ∧ a ≤ dx + 1) ∧ dy ≤ c ∧ c ≤ dy + 1 then 1 else 0 := by
  unfold oneP blockP
  by_cases h : (dx ≤ a ∧ a ≤ dx + 1) ∧ dy ≤ c ∧ c ≤ dy + 1
  · rw [if_pos h, if_pos (decide_eq_true h)]
  · rw [if_neg h, if_neg (by simpa using h)]
theorem block_still (dx dy : Int) : ev 8 12 (blockP dx dy) = blockP dx dy := by
  funext x y
  have hx : x < dx - 1 ∨ x = dx - 1 ∨ x = dx ∨ x = dx + 1 ∨ x = dx + 2 ∨ dx + 2 < x := by omega
  have hy : y < dy - 1 ∨ y = dy - 1 ∨ y = dy ∨ y = dy + 1 ∨ y = dy + 2 ∨ dy + 2 < y := by omega
  unfold ev nearP
  simp only [block_one]
  rcases hx with hx | rfl | rfl | rfl | rfl | hx <;> rcases hy with hy | rfl | rfl | rfl | rfl | hy <;>
    (simp (disch := omega) only [if_pos, if_neg]
     unfold blockP
     first
       | (rw [decide_eq_true (by omega)]; decide)
       | (rw [decide_eq_false (by omega)]; decide))
theorem block_evN (dx dy : Int) : ∀ m, evN 8 12 m (blockP dx dy) = blockP dx dy
  | 0 => rfl
  | m + 1 => by rw [evN, block_evN dx dy m, block_still]
end Go.Proofs.Ytgdijlpkbbfedaa

namespace Go.Proofs.Ytgdijlpkbbfedaa
open Go.RowKit

theorem flat_len {α β : Type} {f : α → List β} {c : Nat} : ∀ {l : List α}, (∀ x ∈ l, (f x).length = c) → (l.flatMap f).length = l.length * c
  | [], _ => by simp
  | a :: l, h => by
    rw [List.flatMap_cons, List.length_append, h a List.mem_cons_self, flat_len (fun x hx => h x (List.mem_cons_of_mem _ hx)), List.length_cons, Nat.add_mul]
    omega
/-- The squares of level 1. -/
def leafB (b : Bool) : Tree := if b then .alive else .dead
def onesL : List Thing := [false, true].flatMap fun a => [false, true].flatMap fun b => [false, true].flatMap fun c => [false, true].map fun d => Thing.sq (leafB a) (leafB b) (leafB c) (leafB d)
theorem onesL_len : onesL.length = 16 := by rfl
theorem onesL_mem (Q : Int → Int → Bool) (x y : Int) : sqOf (treeOf Q 1 x y) ∈ onesL := by
  have key : ∀ a b c d : Bool, Thing.sq (leafB a) (leafB b) (leafB c) (leafB d) ∈ onesL := by decide
  exact key (Q x y) (Q (x + 2 ^ 0) y) (Q x (y + 2 ^ 0)) (Q (x + 2 ^ 0) (y + 2 ^ 0))
/-- The windows of a level that a block may meet, and the empty one. -/
def treesAt (dx dy : Int) (m : Nat) : List Tree := emptyT (m + 2) :: (List.range 5).flatMap fun i : Nat => (List.range 5).map fun k : Nat => treeOf (blockP dx dy) (m + 2) (2 ^ m * (dx / 2 ^ m - 3 + (i : Int))) (2 ^ m * (dy / 2 ^ m - 3 + (k : Int)))
theorem treesAt_len (dx dy : Int) (m : Nat) : (treesAt dx dy m).length = 26 := by
  unfold treesAt
  rw [List.length_cons, flat_len (c := 5) fun i _ => by simp]
  simp
theorem at_place {z d a : Int} (hz : 0 < z) (h1 : z * a ≤ d + 1) (h2 : d < z * a + 4 * z) : ∃ i : Nat, i < 5 ∧ a = d / z - 3 + (i : Int) := by
  have e1 := Int.mul_ediv_add_emod d z
  have e2 := Int.emod_nonneg d (show z ≠ 0 by omega)
  have e3 := Int.emod_lt_of_pos d hz
  generalize d / z = q at *
  have k1 : z * a ≤ z * (q + 1) := by rw [Int.mul_add]; omega
  have k2 : z * (q - 4) < z * a := by rw [Int.mul_sub]; omega
  have k3 := Int.le_of_mul_le_mul_left k1 hz
  have k4 := Int.lt_of_mul_lt_mul_left k2 (by omega)
  exact ⟨(a - (q - 3)).toNat, by omega, by omega⟩
theorem treesAt_mem (dx dy : Int) (m : Nat) {x y : Int} (hx : (2 : Int) ^ m ∣ x) (hy : (2 : Int) ^ m ∣ y) : treeOf (blockP dx dy) (m + 2) x y ∈ treesAt dx dy m := by
  obtain ⟨a, rfl⟩ := hx
  obtain ⟨c, rfl⟩ := hy
  have hz := pow_pos2 m
  have h4 : (2 : Int) ^ (m + 2) = 4 * 2 ^ m := by rw [Int.pow_succ, Int.pow_succ]; omega
  by_cases h : (2 ^ m * a ≤ dx + 1 ∧ dx < 2 ^ m * a + 4 * 2 ^ m) ∧ 2 ^ m * c ≤ dy + 1 ∧ dy < 2 ^ m * c + 4 * 2 ^ m
  · obtain ⟨i, hi, ei⟩ := at_place hz h.1.1 h.1.2
    obtain ⟨k, hk, ek⟩ := at_place hz h.2.1 h.2.2
    refine List.mem_cons_of_mem _ (List.mem_flatMap.2 ⟨i, List.mem_range.2 hi, List.mem_map.2 ⟨k, List.mem_range.2 hk, ?_⟩⟩)
    rw [← ei, ← ek]
  · rw [treeOf_none]
    · exact List.mem_cons_self
    · intro p q hb
      unfold inB at hb
      rw [h4] at hb
      unfold blockP
      rw [decide_eq_false]
      generalize (2 : Int) ^ m * a = A at *
      generalize (2 : Int) ^ m * c = C at *
      generalize (2 : Int) ^ m = z at *
      omega
def stillV (dx dy : Int) : List Thing := onesL ++ (List.range 43).flatMap fun m => (treesAt dx dy m).flatMap fun T => sqOf T :: (List.range 31).map fun s : Nat => Thing.note T (codeR 8 12) (s : Int)
theorem stillV_len (dx dy : Int) : (stillV dx dy).length = 35792 := by
  unfold stillV
  rw [List.length_append, onesL_len, flat_len (c := 832) fun m _ => by rw [flat_len (c := 32) fun T _ => by simp, treesAt_len], List.length_range]
theorem stillV_sq {dx dy : Int} {m : Nat} (hm : m < 43) {x y : Int} (hx : (2 : Int) ^ m ∣ x) (hy : (2 : Int) ^ m ∣ y) : sqOf (treeOf (blockP dx dy) (m + 2) x y) ∈ stillV dx dy :=
  List.mem_append_right _ (List.mem_flatMap.2 ⟨m, List.mem_range.2 hm, List.mem_flatMap.2 ⟨_, treesAt_mem dx dy m hx hy, List.mem_cons_self⟩⟩)
theorem stillV_note {dx dy : Int} {m s : Nat} (hm : m < 43) (hs : s < 31) {x y : Int} (hx : (2 : Int) ^ m ∣ x) (hy : (2 : Int) ^ m ∣ y) : Thing.note (treeOf (blockP dx dy) (m + 2) x y) (codeR 8 12) (s : Int) ∈ stillV dx dy :=
  List.mem_append_right _ (List.mem_flatMap.2 ⟨m, List.mem_range.2 hm, List.mem_flatMap.2 ⟨_, treesAt_mem dx dy m hx hy, List.mem_cons_of_mem _ (List.mem_map.2 ⟨s, List.mem_range.2 hs, rfl⟩)⟩⟩)
theorem still_wins (dx dy : Int) (j : Nat) (hj : j ≤ 30) : Wins 8 12 (blockP dx dy) j 44 (stillV dx dy) where
  one := fun Q x y => List.mem_append_left _ (onesL_mem Q x y)
  full := fun m i x y hm _ hx hy => by
    rw [block_evN]
    have key : ∀ {a : Int}, (2 : Int) ^ (m + 1) ∣ a - i * 2 ^ m → (2 : Int) ^ m ∣ a := fun {a} h => by
      have h1 : (2 : Int) ^ m ∣ a - i * 2 ^ m := Int.dvd_trans ⟨2, Int.pow_succ 2 m⟩ h
      have := Int.dvd_add h1 (Int.dvd_mul_left (i : Int) (2 ^ m))
      rw [Int.sub_add_cancel] at this
      exact this
    exact ⟨stillV_sq (by omega) (key hx) (key hy), fun _ => stillV_note (by omega) (by omega) (key hx) (key hy)⟩
  up := fun m x y _ hM hx hy => ⟨stillV_sq (by omega) hx hy, stillV_note (by omega) (by omega) hx hy⟩
  out := fun m x y hm hM hx hy => by
    rw [block_evN]
    cases m with
    | zero => exact List.mem_append_left _ (onesL_mem _ _ _)
    | succ k =>
      have hd : (2 : Int) ^ k ∣ 2 ^ (k + 1) := ⟨2, Int.pow_succ 2 k⟩
      exact stillV_sq (by omega) (Int.dvd_trans hd hx) (Int.dvd_trans hd hy)
theorem still_nodes (dx dy : Int) : ∀ (n : Nat) (x y : Int), n ≤ 44 → (2 : Int) ^ (n - 2) ∣ x → (2 : Int) ^ (n - 2) ∣ y → ∀ t ∈ nodes (treeOf (blockP dx dy) n x y), t ∈ stillV dx dy
  | 0, x, y, _, _, _, t, ht => by
    simp only [treeOf] at ht
    split at ht <;> simp [nodes] at ht
  | 1, x, y, _, _, _, t, ht => by
    have leaf : ∀ a c, t ∉ nodes (treeOf (blockP dx dy) 0 a c) := fun a c h => by
      simp only [treeOf] at h
      split at h <;> simp [nodes] at h
    have ht := mem_nodes.1 ht
    rcases ht with rfl | h | h | h | h
    · exact List.mem_append_left _ (onesL_mem _ x y)
    · exact absurd h (leaf _ _)
    · exact absurd h (leaf _ _)
    · exact absurd h (leaf _ _)
    · exact absurd h (leaf _ _)
  | n + 2, x, y, hn, hx, hy, t, ht => by
    have hx : (2 : Int) ^ n ∣ x := hx
    have hy : (2 : Int) ^ n ∣ y := hy
    have hd : (2 : Int) ^ (n + 1 - 2) ∣ 2 ^ n := by
      have e : n = n + 1 - 2 + (n - (n + 1 - 2)) := by omega
      exact ⟨2 ^ (n - (n + 1 - 2)), by rw [← Int.pow_add]; congr 1⟩
    have hp : (2 : Int) ^ (n + 1 - 2) ∣ 2 ^ (n + 1) := Int.dvd_trans hd ⟨2, Int.pow_succ 2 n⟩
    have x0 := Int.dvd_trans hd hx
    have y0 := Int.dvd_trans hd hy
    have x1 := Int.dvd_add x0 hp
    have y1 := Int.dvd_add y0 hp
    have ht := mem_nodes.1 ht
    rcases ht with rfl | h | h | h | h
    · exact stillV_sq (m := n) (by omega) hx hy
    · exact still_nodes dx dy (n + 1) _ _ (by omega) x0 y0 t h
    · exact still_nodes dx dy (n + 1) _ _ (by omega) x1 y0 t h
    · exact still_nodes dx dy (n + 1) _ _ (by omega) x0 y1 t h
    · exact still_nodes dx dy (n + 1) _ _ (by omega) x1 y1 t h
theorem pow_dvd2 {m n : Nat} (h : m ≤ n) : (2 : Int) ^ m ∣ 2 ^ n := ⟨2 ^ (n - m), by rw [← Int.pow_add]; congr 1; omega⟩
theorem still_root (dx dy : Int) {k : Nat} (hk : k ≤ 43) : ∀ t ∈ nodes (rootT (blockP dx dy) k), t ∈ stillV dx dy := fun t ht => by
  have hd : (2 : Int) ^ (k + 1 - 2) ∣ -2 ^ k := Int.dvd_neg.2 (pow_dvd2 (by omega))
  exact still_nodes dx dy (k + 1) _ _ (by omega) hd hd t ht
theorem still_blank (dx dy : Int) {m : Nat} (hm : m ≤ 44) : ∀ t ∈ nodes (emptyT m), t ∈ stillV dx dy := fun t ht => by
  have hz := pow_pos2 m
  have e : treeOf (blockP dx dy) m (2 ^ m * (dx.toNat + dy.toNat + 2 : Nat)) (2 ^ m * (dx.toNat + dy.toNat + 2 : Nat)) = emptyT m := by
    refine treeOf_none fun a c hb => ?_
    unfold inB at hb
    unfold blockP
    rw [decide_eq_false]
    rintro ⟨⟨_, h2⟩, _⟩
    have h3 : (1 : Int) * ((dx.toNat + dy.toNat + 2 : Nat) : Int) ≤ 2 ^ m * ((dx.toNat + dy.toNat + 2 : Nat) : Int) := Int.mul_le_mul_of_nonneg_right (by omega) (by omega)
    omega
  rw [← e] at ht
  have hd : (2 : Int) ^ (m - 2) ∣ 2 ^ m * ((dx.toNat + dy.toNat + 2 : Nat) : Int) := Int.dvd_trans (pow_dvd2 (by omega)) (Int.dvd_mul_right _ _)
  exact still_nodes dx dy m _ _ hm hd hd t ht
theorem still_leapC {dx dy : Int} {k j : Nat} (hs : Supp (blockP dx dy) k) (hk : k ≤ 41) (hj : j ≤ 30) : LeapC 8 12 (blockP dx dy) k j (stillV dx dy) := by
  have hK : leapK k j ≤ 43 := by unfold leapK; omega
  have hK2 : k + 2 ≤ leapK k j ∧ j + 2 ≤ leapK k j := by unfold leapK; omega
  constructor
  · have key : ∀ i, k + i ≤ leapK k j → ∀ x ∈ wrapsL (blockP dx dy) k i, x ∈ stillV dx dy := by
      intro i
      induction i with
      | zero => intro _ x hx; cases hx
      | succ i ih =>
        intro hi x hx
        rcases List.mem_append.1 hx with h | h
        · exact ih (by omega) x h
        · rcases wrap_new x h with q | q
          · rw [(hs.up (Nat.le_add_right k i)).clip] at q
            exact still_root dx dy (by omega) x q
          · exact still_blank dx dy (by omega) x q
    exact key _ (by omega)
  · obtain ⟨n, hn⟩ : ∃ n, leapK k j = n + 1 := ⟨leapK k j - 1, by omega⟩
    rw [hn]
    have hd : (2 : Int) ^ n ∣ -2 ^ (n + 1) := Int.dvd_neg.2 (pow_dvd2 (by omega))
    exact clo_up (still_wins dx dy j hj) n _ _ (by omega) (by omega) hd hd
end Go.Proofs.Ytgdijlpkbbfedaa

namespace Go.Proofs.Ytgdijlpkbbfedaa
open Go.RowKit

theorem span_empty {P : Int → Int → Bool} {lo hi : Int} (h : Span P lo hi) {n : Nat} {x y : Int} (hne : ¬ ((lo - 2 ^ n < x ∧ x < hi) ∧ lo - 2 ^ n < y ∧ y < hi)) : treeOf P n x y = emptyT n := by
  refine treeOf_none fun a b hb => ?_
  unfold inB at hb
  cases q : P a b
  · rfl
  · have := h a b q
    exact absurd ⟨⟨by omega, by omega⟩, by omega, by omega⟩ hne
end Go.Proofs.Ytgdijlpkbbfedaa

namespace Go.Proofs.Ytgdijlpkbbfedaa
open Go.RowKit

section
variable {b l : Int} {P : Int → Int → Bool} {j M : Nat} {V W : List Thing}
theorem wins_mono (h : Wins b l P j M V) (hv : ∀ x ∈ V, x ∈ W) : Wins b l P j M W where
  one := fun Q x y => hv _ (h.one Q x y)
  full := fun m i x y hm hi hx hy => ⟨hv _ (h.full m i x y hm hi hx hy).1, fun hh => hv _ ((h.full m i x y hm hi hx hy).2 hh)⟩
  up := fun m x y hj hM hx hy => ⟨hv _ (h.up m x y hj hM hx hy).1, hv _ (h.up m x y hj hM hx hy).2⟩
  out := fun m x y hj hM hx hy => hv _ (h.out m x y hj hM hx hy)
theorem wins_sq (h : Wins b l P j M V) {m : Nat} (hm : m + 2 ≤ M) {x y : Int} (hx : (2 : Int) ^ (m + 1) ∣ x) (hy : (2 : Int) ^ (m + 1) ∣ y) : sqOf (treeOf P (m + 2) x y) ∈ V := by
  by_cases hj : m + 1 ≤ j
  · have := (h.full m 0 x y hj (by rw [Nat.zero_mul]; exact Nat.zero_le _) (by simpa using hx) (by simpa using hy)).1
    rw [show evN b l (0 * 2 ^ m) P = P by rw [Nat.zero_mul]; rfl] at this
    exact this
  · exact (h.up m x y (by omega) hm (Int.dvd_trans (pow_dvd2 (Nat.le_succ m)) hx) (Int.dvd_trans (pow_dvd2 (Nat.le_succ m)) hy)).1
theorem wins_nodes (h : Wins b l P j M V) : ∀ (n : Nat) (x y : Int), n ≤ M → (2 : Int) ^ (n - 1) ∣ x → (2 : Int) ^ (n - 1) ∣ y → ∀ t ∈ nodes (treeOf P n x y), t ∈ V
  | 0, x, y, _, _, _, t, ht => by
    simp only [treeOf] at ht
    split at ht <;> simp [nodes] at ht
  | 1, x, y, _, _, _, t, ht => by
    have leaf : ∀ a c, t ∉ nodes (treeOf P 0 a c) := fun a c h => by
      simp only [treeOf] at h
      split at h <;> simp [nodes] at h
    have ht := mem_nodes.1 ht
    rcases ht with rfl | h' | h' | h' | h'
    · exact h.one _ x y
    · exact absurd h' (leaf _ _)
    · exact absurd h' (leaf _ _)
    · exact absurd h' (leaf _ _)
    · exact absurd h' (leaf _ _)
  | n + 2, x, y, hn, hx, hy, t, ht => by
    have hx : (2 : Int) ^ (n + 1) ∣ x := hx
    have hy : (2 : Int) ^ (n + 1) ∣ y := hy
    have hd : (2 : Int) ^ (n + 1 - 1) ∣ 2 ^ (n + 1) := pow_dvd2 (by omega)
    have x0 := Int.dvd_trans hd hx
    have y0 := Int.dvd_trans hd hy
    have x1 := Int.dvd_add x0 hd
    have y1 := Int.dvd_add y0 hd
    have ht := mem_nodes.1 ht
    rcases ht with rfl | h' | h' | h' | h'
    · exact wins_sq h hn hx hy
    · exact wins_nodes h (n + 1) _ _ (by omega) x0 y0 t h'
    · exact wins_nodes h (n + 1) _ _ (by omega) x1 y0 t h'
    · exact wins_nodes h (n + 1) _ _ (by omega) x0 y1 t h'
    · exact wins_nodes h (n + 1) _ _ (by omega) x1 y1 t h'
theorem wins_root (h : Wins b l P j M V) {k : Nat} (hk : k < M) : ∀ t ∈ nodes (rootT P k), t ∈ V := fun t ht =>
  wins_nodes h (k + 1) _ _ hk (Int.dvd_neg.2 (Int.dvd_refl _)) (Int.dvd_neg.2 (Int.dvd_refl _)) t ht
theorem wins_blank (h : Wins b l P j M V) {lo hi : Int} (hs : Span P lo hi) {m : Nat} (hm : m ≤ M) : ∀ t ∈ nodes (emptyT m), t ∈ V := fun t ht => by
  have hz := pow_pos2 m
  have e : treeOf P m (2 ^ m * (hi.toNat : Nat)) (2 ^ m * (hi.toNat : Nat)) = emptyT m := by
    refine span_empty hs fun hh => ?_
    have h3 : (1 : Int) * ((hi.toNat : Nat) : Int) ≤ 2 ^ m * ((hi.toNat : Nat) : Int) := Int.mul_le_mul_of_nonneg_right (by omega) (by omega)
    omega
  rw [← e] at ht
  have hd : (2 : Int) ^ (m - 1) ∣ 2 ^ m * ((hi.toNat : Nat) : Int) := Int.dvd_trans (pow_dvd2 (by omega)) (Int.dvd_mul_right _ _)
  exact wins_nodes h m _ _ hm hd hd t ht
theorem wins_leapC (h : Wins b l P j M V) {k : Nat} (hs : Supp P k) (hK : leapK k j < M) : LeapC b l P k j V := by
  have hK2 : k + 2 ≤ leapK k j ∧ j + 2 ≤ leapK k j := by unfold leapK; omega
  constructor
  · have key : ∀ i, k + i ≤ leapK k j → ∀ x ∈ wrapsL P k i, x ∈ V := by
      intro i
      induction i with
      | zero => intro _ x hx; cases hx
      | succ i ih =>
        intro hi x hx
        rcases List.mem_append.1 hx with h' | h'
        · exact ih (by omega) x h'
        · rcases wrap_new x h' with q | q
          · rw [(hs.up (Nat.le_add_right k i)).clip] at q
            exact wins_root h (by omega) x q
          · exact wins_blank h (supp_span.1 hs) (by omega) x q
    exact key _ (by omega)
  · obtain ⟨n, hn⟩ : ∃ n, leapK k j = n + 1 := ⟨leapK k j - 1, by omega⟩
    rw [hn]
    have hd : (2 : Int) ^ n ∣ -2 ^ (n + 1) := Int.dvd_neg.2 (pow_dvd2 (by omega))
    exact clo_up h n _ _ (by omega) (by omega) hd hd
end
/-- Squares and their notes. -/
def levV (c s : Int) (l : List Tree) : List Thing := l.flatMap fun T => [sqOf T, .note T c s]
theorem levV_len (c s : Int) (l : List Tree) : (levV c s l).length = l.length * 2 := flat_len fun _ _ => rfl
theorem levV_sq {c s : Int} {l : List Tree} {T : Tree} (h : T ∈ l) : sqOf T ∈ levV c s l := List.mem_flatMap.2 ⟨T, h, List.mem_cons_self⟩
theorem levV_note {c s : Int} {l : List Tree} {T : Tree} (h : T ∈ l) : Thing.note T c s ∈ levV c s l := List.mem_flatMap.2 ⟨T, h, List.mem_cons_of_mem _ List.mem_cons_self⟩
theorem mem_grid {n m : Nat} {f : Nat → Nat → Tree} {T : Tree} (i k : Nat) (hi : i < n) (hk : k < m) (e : T = f i k) : T ∈ (List.range n).flatMap fun i => (List.range m).map fun k => f i k :=
  List.mem_flatMap.2 ⟨i, List.mem_range.2 hi, List.mem_map.2 ⟨k, List.mem_range.2 hk, e.symm⟩⟩
theorem grid_len (n m : Nat) (f : Nat → Nat → Tree) : ((List.range n).flatMap fun i => (List.range m).map fun k => f i k).length = n * m := by
  rw [flat_len (c := m) fun i _ => by simp, List.length_range]
end Go.Proofs.Ytgdijlpkbbfedaa

namespace Go.Proofs.Ytgdijlpkbbfedaa
open Go.RowKit

theorem gl_evN : ∀ r : Nat, r < 4 → evN 8 12 r (setOfL (gl 0)) = setOfL (gl r)
  | 0, _ => rfl
  | r + 1, h => by rw [evN, gl_evN r (by omega), gl_step r (by omega)]
/-- A glider at any time. -/
theorem gl_time (q i : Nat) : evN 8 12 i (moveP q q (setOfL (gl 0))) = moveP ((i / 4 + q : Nat) : Int) ((i / 4 + q : Nat) : Int) (setOfL (gl (i % 4))) := by
  have e : i = 4 * (i / 4) + i % 4 := by omega
  have h : evN 8 12 i (setOfL (gl 0)) = moveP ((i / 4 : Nat) : Int) ((i / 4 : Nat) : Int) (setOfL (gl (i % 4))) := by
    have h2 := evN_add 8 12 (setOfL (gl 0)) (4 * (i / 4)) (i % 4)
    rw [← e, gl_glide, evN_move, gl_evN _ (by omega)] at h2
    exact h2.symm
  rw [evN_move, h, moveP_moveP]
  congr 1 <;> omega
/-- Windows of the two lowest levels. -/
def lowT (m : Nat) : List Tree := emptyT (m + 2) :: (List.range 4).flatMap fun r : Nat => (List.range 11).flatMap fun i : Nat => (List.range 11).map fun k : Nat => treeOf (setOfL (gl r)) (m + 2) ((i : Int) - 7) ((k : Int) - 7)
theorem lowT_len (m : Nat) : (lowT m).length = 485 := by
  unfold lowT
  rw [List.length_cons, flat_len (c := 121) fun r _ => grid_len _ _ _, List.length_range]
theorem lowT_mem {m r : Nat} (hm : m ≤ 1) (hr : r < 4) (x y : Int) : treeOf (setOfL (gl r)) (m + 2) x y ∈ lowT m := by
  by_cases h : (-8 < x ∧ x < 4) ∧ -8 < y ∧ y < 4
  · refine List.mem_cons_of_mem _ (List.mem_flatMap.2 ⟨r, List.mem_range.2 hr, mem_grid (x + 7).toNat (y + 7).toNat (by omega) (by omega) ?_⟩)
    congr 1 <;> omega
  · rw [span_empty (gl_span r)]
    · exact List.mem_cons_self
    · have : (2 : Int) ^ (m + 2) ≤ 8 := pow_mono2 (m := m + 2) (n := 3) (by omega)
      omega
/-- Windows on the way. -/
def wayT (μ q : Nat) : List Tree := emptyT (μ + 4) :: (List.range 19).flatMap fun i : Nat => (List.range 5).map fun k : Nat => treeOf (setOfL (gl 0)) (μ + 4) (2 ^ μ * (((q / 2 ^ μ : Nat) : Int) - 15 + (i : Int)) - q) (2 ^ μ * (((q / 2 ^ μ : Nat) : Int) - 15 + (i : Int) + 8 * ((k : Int) - 2)) - q)
theorem wayT_len (μ q : Nat) : (wayT μ q).length = 96 := by
  unfold wayT
  rw [List.length_cons, grid_len 19 5]
theorem way_place {z d r u : Int} (hz : 0 < z) (h0 : 0 ≤ r) (hr : r < z) (h1 : -(z * 16) < z * u - (z * d + r)) (h2 : z * u - (z * d + r) < 4) : d - 15 ≤ u ∧ u ≤ d + 3 := by
  constructor
  · have k : z * (d - 16) < z * u := by rw [Int.mul_sub]; omega
    have := Int.lt_of_mul_lt_mul_left k (by omega)
    omega
  · refine Int.not_lt.1 fun hh => ?_
    have k : z * (d + 4) ≤ z * u := Int.mul_le_mul_of_nonneg_left (by omega) (by omega)
    rw [Int.mul_add] at k
    omega
theorem wayT_mem (μ q : Nat) (u k : Int) : treeOf (setOfL (gl 0)) (μ + 4) (2 ^ μ * u - q) (2 ^ μ * (u + 8 * k) - q) ∈ wayT μ q := by
  by_cases h : (0 - 2 ^ (μ + 4) < 2 ^ μ * u - (q : Int) ∧ 2 ^ μ * u - (q : Int) < 4) ∧ 0 - 2 ^ (μ + 4) < 2 ^ μ * (u + 8 * k) - (q : Int) ∧ 2 ^ μ * (u + 8 * k) - (q : Int) < 4
  · have hz := pow_pos2 μ
    have h16 : (2 : Int) ^ (μ + 4) = 2 ^ μ * 16 := by rw [Int.pow_add]; rfl
    have eq : (q : Int) = 2 ^ μ * ((q / 2 ^ μ : Nat) : Int) + ((q % 2 ^ μ : Nat) : Int) := by
      have := Nat.div_add_mod q (2 ^ μ)
      have e2 : (((2 ^ μ * (q / 2 ^ μ) + q % 2 ^ μ : Nat)) : Int) = (q : Int) := by rw [this]
      rw [← e2, Int.natCast_add, Int.natCast_mul]
      congr 2
    have hr : ((q % 2 ^ μ : Nat) : Int) < 2 ^ μ := by
      have := Nat.mod_lt q (Nat.two_pow_pos μ)
      have e2 : ((2 ^ μ : Nat) : Int) = (2 : Int) ^ μ := by simp
      omega
    obtain ⟨⟨a1, a2⟩, a3, a4⟩ := h
    have b1 := way_place (d := ((q / 2 ^ μ : Nat) : Int)) (r := ((q % 2 ^ μ : Nat) : Int)) (u := u) hz (by omega) hr (by rw [← eq]; omega) (by rw [← eq]; exact a2)
    have b2 := way_place (d := ((q / 2 ^ μ : Nat) : Int)) (r := ((q % 2 ^ μ : Nat) : Int)) (u := u + 8 * k) hz (by omega) hr (by rw [← eq]; omega) (by rw [← eq]; exact a4)
    refine List.mem_cons_of_mem _ (mem_grid (u - (((q / 2 ^ μ : Nat) : Int) - 15)).toNat (k + 2).toNat (by omega) (by omega) ?_)
    rw [show ((q / 2 ^ μ : Nat) : Int) - 15 + ((u - (((q / 2 ^ μ : Nat) : Int) - 15)).toNat : Int) = u by omega, show (((k + 2).toNat : Nat) : Int) - 2 = k by omega]
  · rw [span_empty (gl_span 0) h]
    exact List.mem_cons_self
/-- Windows from the leap's own level on. -/
def upT (n m Q : Nat) : List Tree := emptyT n :: (List.range 5).flatMap fun i : Nat => (List.range 5).map fun k : Nat => treeOf (setOfL (gl 0)) n (2 ^ m * ((i : Int) - 3) - Q) (2 ^ m * ((k : Int) - 3) - Q)
theorem upT_len (n m Q : Nat) : (upT n m Q).length = 26 := by
  unfold upT
  rw [List.length_cons, grid_len 5 5]
theorem up_place {z Q a : Int} (hz : 4 ≤ z) (h0 : 0 ≤ Q) (hr : Q < z) (h1 : -(z * 4) < z * a - Q) (h2 : z * a - Q < 4) : -3 ≤ a ∧ a ≤ 1 := by
  constructor
  · have k : z * (-4) < z * a := by omega
    have := Int.lt_of_mul_lt_mul_left k (by omega)
    omega
  · refine Int.not_lt.1 fun hh => ?_
    have k : z * 2 ≤ z * a := Int.mul_le_mul_of_nonneg_left (by omega) (by omega)
    omega
theorem upT_mem {n m Q : Nat} (hm : 2 ≤ m) (hn : n ≤ m + 2) (hQ : (Q : Int) < 2 ^ m) {x y : Int} (hx : (2 : Int) ^ m ∣ x) (hy : (2 : Int) ^ m ∣ y) : treeOf (moveP Q Q (setOfL (gl 0))) n x y ∈ upT n m Q := by
  obtain ⟨a, rfl⟩ := hx
  obtain ⟨c, rfl⟩ := hy
  rw [treeOf_move]
  by_cases h : (0 - 2 ^ n < 2 ^ m * a - (Q : Int) ∧ 2 ^ m * a - (Q : Int) < 4) ∧ 0 - 2 ^ n < 2 ^ m * c - (Q : Int) ∧ 2 ^ m * c - (Q : Int) < 4
  · have h4 : (2 : Int) ^ 2 ≤ 2 ^ m := pow_mono2 hm
    have hnm : (2 : Int) ^ n ≤ 2 ^ (m + 2) := pow_mono2 hn
    have h16 : (2 : Int) ^ (m + 2) = 2 ^ m * 4 := by rw [Int.pow_add]; rfl
    obtain ⟨⟨a1, a2⟩, a3, a4⟩ := h
    have b1 := up_place (a := a) (Q := Q) h4 (by omega) hQ (by omega) a2
    have b2 := up_place (a := c) (Q := Q) h4 (by omega) hQ (by omega) a4
    refine List.mem_cons_of_mem _ (mem_grid (a + 3).toNat (c + 3).toNat (by omega) (by omega) ?_)
    rw [show (((a + 3).toNat : Nat) : Int) - 3 = a by omega, show (((c + 3).toNat : Nat) : Int) - 3 = c by omega]
  · rw [span_empty (gl_span 0) h]
    exact List.mem_cons_self
def glLow : List Thing := onesL ++ (levV (codeR 8 12) 0 (lowT 0) ++ levV (codeR 8 12) 1 (lowT 1))
theorem glLow_len : glLow.length = 1956 := by
  unfold glLow
  rw [List.length_append, List.length_append, onesL_len, levV_len, levV_len, lowT_len, lowT_len]
def glWay (q : Nat) : List Thing := (List.range 20).flatMap fun μ : Nat => levV (codeR 8 12) ((μ + 2 : Nat) : Int) (wayT μ q)
def glUp (j q : Nat) : List Thing := (List.range 21).flatMap fun d : Nat => levV (codeR 8 12) j (upT (j + d + 2) (j + d) q)
def glOut (j Q : Nat) : List Thing := (List.range 21).flatMap fun d : Nat => (upT (j + d + 1) (j + d) Q).map sqOf
def glV (j q : Nat) : List Thing := glWay q ++ (glUp j q ++ glOut j (q + 2 ^ (j - 2)))
theorem glV_len (j q : Nat) : (glV j q).length = 5478 := by
  unfold glV glWay glUp glOut
  rw [List.length_append, List.length_append, flat_len (c := 192) fun μ _ => by rw [levV_len, wayT_len], flat_len (c := 52) fun d _ => by rw [levV_len, upT_len], flat_len (c := 26) fun d _ => by rw [List.length_map, upT_len], List.length_range, List.length_range]
theorem glWay_sq {q μ : Nat} (h : μ < 20) {T : Tree} (hT : T ∈ wayT μ q) : sqOf T ∈ glWay q := List.mem_flatMap.2 ⟨μ, List.mem_range.2 h, levV_sq hT⟩
theorem glWay_note {q μ : Nat} (h : μ < 20) {T : Tree} (hT : T ∈ wayT μ q) : Thing.note T (codeR 8 12) ((μ + 2 : Nat) : Int) ∈ glWay q := List.mem_flatMap.2 ⟨μ, List.mem_range.2 h, levV_note hT⟩
theorem glide_wins (j q : Nat) (hj : 2 ≤ j) (hj2 : j ≤ 22) (hq : q < 2 ^ (j - 2)) : Wins 8 12 (moveP q q (setOfL (gl 0))) j 24 (glLow ++ glV j q) where
  one := fun Q x y => List.mem_append_left _ (List.mem_append_left _ (onesL_mem Q x y))
  full := fun m i x y hm hi hx hy => by
    match m, hm, hi, hx, hy with
    | 0, hm, hi, hx, hy =>
      rw [gl_time, treeOf_move]
      have hT := lowT_mem (m := 0) (by decide) (show i * 2 ^ 0 % 4 < 4 by omega) (x - ((i * 2 ^ 0 / 4 + q : Nat) : Int)) (y - ((i * 2 ^ 0 / 4 + q : Nat) : Int))
      exact ⟨List.mem_append_left _ (List.mem_append_right _ (List.mem_append_left _ (levV_sq hT))), fun _ => List.mem_append_left _ (List.mem_append_right _ (List.mem_append_left _ (levV_note hT)))⟩
    | 1, hm, hi, hx, hy =>
      rw [gl_time, treeOf_move]
      have hT := lowT_mem (m := 1) (by decide) (show i * 2 ^ 1 % 4 < 4 by omega) (x - ((i * 2 ^ 1 / 4 + q : Nat) : Int)) (y - ((i * 2 ^ 1 / 4 + q : Nat) : Int))
      exact ⟨List.mem_append_left _ (List.mem_append_right _ (List.mem_append_right _ (levV_sq hT))), fun _ => List.mem_append_left _ (List.mem_append_right _ (List.mem_append_right _ (levV_note hT)))⟩
    | μ + 2, hm, hi, hx, hy =>
      obtain ⟨u, k, e⟩ := gl_window q i μ hx hy
      rw [e]
      have hT := wayT_mem μ q u k
      exact ⟨List.mem_append_right _ (List.mem_append_left _ (glWay_sq (by omega) hT)), fun _ => List.mem_append_right _ (List.mem_append_left _ (glWay_note (by omega) hT))⟩
  up := fun m x y hjm hM hx hy => by
    have hQ : (q : Int) < 2 ^ m := by
      have h1 := Nat.lt_of_lt_of_le hq (Nat.pow_le_pow_right (n := 2) (by decide) (show j - 2 ≤ m by omega))
      have e2 : ((2 ^ m : Nat) : Int) = (2 : Int) ^ m := by simp
      omega
    have hT := upT_mem (n := m + 2) (m := m) (Q := q) (by omega) (Nat.le_refl _) hQ hx hy
    obtain ⟨d, rfl⟩ : ∃ d, m = j + d := ⟨m - j, by omega⟩
    exact ⟨List.mem_append_right _ (List.mem_append_right _ (List.mem_append_left _ (List.mem_flatMap.2 ⟨d, List.mem_range.2 (by omega), levV_sq hT⟩))), List.mem_append_right _ (List.mem_append_right _ (List.mem_append_left _ (List.mem_flatMap.2 ⟨d, List.mem_range.2 (by omega), levV_note hT⟩)))⟩
  out := fun m x y hjm hM hx hy => by
    have hQ : ((q + 2 ^ (j - 2) : Nat) : Int) < 2 ^ m := by
      have h1 : q + 2 ^ (j - 2) < 2 ^ (j - 1) := by
        rw [show j - 1 = j - 2 + 1 by omega, Nat.pow_succ]; omega
      have h1 := Nat.lt_of_lt_of_le h1 (Nat.pow_le_pow_right (n := 2) (by decide) (show j - 1 ≤ m by omega))
      have e2 : ((2 ^ m : Nat) : Int) = (2 : Int) ^ m := by simp
      omega
    have e4 : 2 ^ j = 4 * 2 ^ (j - 2) := by
      conv => lhs; rw [show j = j - 2 + 2 by omega]
      rw [Nat.pow_succ, Nat.pow_succ]; omega
    have ev : evN 8 12 (2 ^ j) (moveP q q (setOfL (gl 0))) = moveP ((q + 2 ^ (j - 2) : Nat) : Int) ((q + 2 ^ (j - 2) : Nat) : Int) (setOfL (gl 0)) := by
      rw [e4, evN_move, gl_glide, moveP_moveP]
      congr 1 <;> omega
    rw [ev]
    have hT := upT_mem (n := m + 1) (m := m) (Q := q + 2 ^ (j - 2)) (by omega) (by omega) hQ hx hy
    obtain ⟨d, rfl⟩ : ∃ d, m = j + d := ⟨m - j, by omega⟩
    exact List.mem_append_right _ (List.mem_append_right _ (List.mem_append_right _ (List.mem_flatMap.2 ⟨d, List.mem_range.2 (by omega), List.mem_map.2 ⟨_, hT, rfl⟩⟩)))
/-- Of all its leaps. -/
def glAll (n : Nat) : List Thing := glLow ++ (List.range 21).flatMap fun J : Nat => glV (J + 2) (n % 2 ^ J)
theorem glAll_len (n : Nat) : (glAll n).length = 116994 := by
  unfold glAll
  rw [List.length_append, glLow_len, flat_len (c := 5478) fun J _ => glV_len _ _, List.length_range]
theorem gl_supp {q : Nat} (hq : q < 2 ^ 20) : Supp (moveP q q (setOfL (gl 0))) 21 := fun a c hp => by
  have h := gl_span 0 _ _ hp
  have e : (2 : Int) ^ 21 = 2097152 := by decide
  have e2 : 2 ^ 20 = 1048576 := by decide
  rw [e]
  omega
theorem glide_steps {n : Nat} (hn : n < 2 ^ 20) : StepsC 8 12 (setOfL (gl 0)) (4 * n) 40 (glAll n) := fun i hi hb k hk => by
  have hlow : 2 ≤ i := by
    match i, hb with
    | 0, hb => simp at hb; omega
    | 1, hb => simp at hb; omega
    | i + 2, _ => omega
  obtain ⟨J, rfl⟩ : ∃ J, i = J + 2 := ⟨i - 2, by omega⟩
  have e2 : 2 ^ (J + 2) = 4 * 2 ^ J := by rw [Nat.pow_add]; omega
  have hJ : J < 20 := by
    refine Nat.lt_of_not_le fun hle => ?_
    have h1 := Nat.pow_le_pow_right (n := 2) (by decide) hle
    rw [e2, Nat.div_eq_of_lt (by omega)] at hb
    cases hb
  have em : 4 * n % 2 ^ (J + 2) = 4 * (n % 2 ^ J) := by rw [e2, Nat.mul_mod_mul_left]
  rw [em, gl_glide] at hk ⊢
  have hq : n % 2 ^ J < 2 ^ J := Nat.mod_lt _ (Nat.two_pow_pos J)
  have hq2 : n % 2 ^ J < 2 ^ 20 := Nat.lt_of_lt_of_le hq (Nat.pow_le_pow_right (by decide) (by omega))
  have hk2 := hk.le (by decide) (gl_supp hq2)
  refine wins_leapC (M := 24) (wins_mono (glide_wins (J + 2) (n % 2 ^ J) (by omega) (by omega) hq) fun x hx => ?_) hk.2.1 (by unfold leapK; omega)
  rcases List.mem_append.1 hx with h | h
  · exact List.mem_append_left _ h
  · exact List.mem_append_right _ (List.mem_flatMap.2 ⟨J, List.mem_range.2 (by omega), h⟩)
end Go.Proofs.Ytgdijlpkbbfedaa

namespace Go.Proofs.Ytgdijlpkbbfedaa
open Go.RowKit

theorem least_can {l : List (Int × Int)} {k : Nat} (h : leastK l k) : Can (setOfL l) k := by
  obtain ⟨h1, h2, h3⟩ := h
  refine ⟨h1, fun a c hp => ?_, ?_⟩
  · have hm : (a, c) ∈ l := of_decide_eq_true hp
    exact inB_root.1 (h2 _ hm)
  · by_cases e : k = 1
    · exact .inl e
    · refine .inr fun hf => h3 (k - 1) (by omega) (by omega) fun c hc => ?_
      exact hf c.1 c.2 (h2 c hc) (decide_eq_true hc)
def blockL (dx dy : Int) : List (Int × Int) := [(dx, dy), (dx + 1, dy), (dx, dy + 1), (dx + 1, dy + 1)]
theorem block_set (dx dy : Int) : setOfL (blockL dx dy) = blockP dx dy := by
  funext a c
  unfold setOfL blockL blockP
  refine decide_eq_decide.2 ?_
  simp only [List.mem_cons, List.not_mem_nil, or_false, Prod.mk.injEq]
  omega
/-- What LeapStill asks. -/
theorem still_law {S S1 S2 : ArS} {A A1 A2 : Nat → Abs} {dx dy : Int} {k κ n : Nat} {p q bad1 bad2 : Int} {L : List Thing} (hw : Within S [firstT]) (hroom : S.room = 200000) (hq : S.quota 1 = 200000) (hk : leastK (blockL dx dy) k) (hk40 : k ≤ 40)
    (hm : Made 1 (nodes (rootT (setOfL (blockL dx dy)) k)) S A 0 S1 A1 bad1) (hp : bad1 = 0 → Has S1 A1 1 p (rootT (setOfL (blockL dx dy)) k)) :
    bad1 = 0 ∧ (L.length ≤ 44 * 40 → Grew 1 (fun V => StepsC 8 12 (setOfL (blockL dx dy)) n 40 V ∧ ∀ x ∈ L, x ∈ V) S1 A1 0 S2 A2 bad2 → (∀ i, i < 40 → n / 2 ^ i % 2 = 1 → i ≤ 30) → (bad2 = 0 → Has S2 A2 1 q (rootT (evN 8 12 n (setOfL (blockL dx dy))) κ) ∧ Can (evN 8 12 n (setOfL (blockL dx dy))) κ) → bad2 = 0 ∧ p = q) := by
  have hc := least_can hk
  rw [block_set] at hm hp hc ⊢
  obtain ⟨e1, w1, _⟩ := hm.enough (firstT :: stillV dx dy) (fun i x hd => by rw [List.mem_singleton.1 (hw i x hd)]; exact List.mem_cons_self) (fun x hx => List.mem_cons_of_mem _ (still_root dx dy (by omega) x hx)) (by rw [List.length_cons, stillV_len, hroom]; decide) (by rw [List.length_cons, stillV_len, hq]; decide)
  refine ⟨e1, fun hL hg hn hh => ?_⟩
  have g1 : S1.room = 200000 := hm.st.room.trans hroom
  have g2 : S1.quota 1 = 200000 := by rw [hm.st.quota]; exact hq
  have hlen : ((firstT :: stillV dx dy ++ L).length : Int) < 200000 := by
    rw [List.length_append, List.length_cons, stillV_len]; omega
  obtain ⟨e2, _, _⟩ := hg.enough (firstT :: stillV dx dy ++ L) (fun i x hd => List.mem_append_left _ (w1 i x hd)) ⟨fun i hi hb k' hk' => by
      rw [block_evN] at hk' ⊢
      have e := hk'.uniq hc
      subst e
      obtain ⟨h1, h2⟩ := still_leapC hk'.2.1 (by omega) (hn i hi hb)
      exact ⟨fun x hx => List.mem_append_left _ (List.mem_cons_of_mem _ (h1 x hx)), (clo_mono h2 fun x hx => List.mem_append_left _ (List.mem_cons_of_mem _ hx))⟩, fun x hx => List.mem_append_right _ hx⟩ (by rw [g1]; exact hlen) (by rw [g2]; exact hlen)
  obtain ⟨h1, h2⟩ := hh e2
  rw [block_evN] at h1 h2
  have e := h2.uniq hc
  subst e
  exact ⟨e2, Den.inj (hg.st.stay 1 (by decide) _ _ (hp e1).2 (hp e1).1) h1.1⟩
set_option maxRecDepth 100000 in
set_option maxHeartbeats 6400000 in
theorem still_any (W : World) (n dx dy : Int) (hn : -9223372036854775808 ≤ n ∧ n ≤ 9223372036854775807) (hx : -9223372036854775808 ≤ dx ∧ dx ≤ 9223372036854775807) (hy : -9223372036854775808 ≤ dy ∧ dy ≤ 9223372036854775807) :
    Calls Try.prog 4 #[.int .i64 n, .int .i64 dx, .int .i64 dy] W fun e W' => e = .returned (.bool true) ∧ Below W.heap.size W W' := by
  have HN := Lib.hid hn
  have HX := Lib.hid hx
  have HY := Lib.hid hy
  clear hn hx hy
  go_enter Try.func4, Try.ntmps4
  go_wp2_with fail
  (with_reducible refine (spot_any n 1073741825 (by omega) (by omega) HN.out.1 HN.out.2 _).mono ?_)
  rintro e wq ⟨rfl, rfl⟩
  go_wp2_with fail
  (with_reducible refine (spot_any dx 1073741824 (by omega) (by omega) HX.out.1 HX.out.2 _).mono ?_)
  rintro e wq ⟨rfl, rfl⟩
  go_wp2_with fail
  (with_reducible refine (spot_any dy 1073741824 (by omega) (by omega) HY.out.1 HY.out.2 _).mono ?_)
  rintro e wq ⟨rfl, rfl⟩
  obtain ⟨m, hm, hml⟩ : ∃ m : Nat, n % 1073741825 = m ∧ m ≤ 1073741824 := ⟨(n % 1073741825).toNat, by omega, by omega⟩
  obtain ⟨x0, x1⟩ : 0 ≤ dx % 1073741824 ∧ dx % 1073741824 < 1073741824 := by omega
  obtain ⟨y0, y1⟩ : 0 ≤ dy % 1073741824 ∧ dy % 1073741824 < 1073741824 := by omega
  rw [hm]
  have HML := Lib.hid hml
  clear hm hml HN HX HY
  generalize dx % 1073741824 = x at *
  generalize dy % 1073741824 = y at *
  go_wp2_with fail
  (with_reducible refine (begunQ_any _).mono ?_)
  rintro e w2 ⟨p, R, S, A, rfl, hA, hnn, hro, hqu, hV, hb2, hfr⟩
  have HA := Lib.hid hA
  have HRO := Lib.hid hro
  have HQU := Lib.hid hqu
  have HV := Lib.hid hV
  have HB2 := Lib.hid hb2
  have HFR := Lib.hid hfr
  clear hA hnn hro hqu hV hb2 hfr
  go_wp2_with fail
  have HRD : Hid (Rd (w2.alloc (.cells #[.int .i64 x, .int .i64 y, .int .i64 (x + 1), .int .i64 y, .int .i64 x, .int .i64 (y + 1), .int .i64 (x + 1), .int .i64 (y + 1)] 37)) (w2.heap.size + 1) 2 (.slice (some ⟨w2.heap.size, 0, none⟩) 4 4) 4 (flat (blockL x y))) := fresh_cells w2 (blockL x y) 4 rfl (by unfold maxLen; omega)
  have hb3 : Below w2.heap.size w2 (w2.alloc (.cells #[.int .i64 x, .int .i64 y, .int .i64 (x + 1), .int .i64 y, .int .i64 x, .int .i64 (y + 1), .int .i64 (x + 1), .int .i64 (y + 1)] 37)) := (Below.refl _ _).alloc (Nat.le_refl _) _
  have HSZ : Hid (w2.heap.size + 1 ≤ (w2.alloc (.cells #[.int .i64 x, .int .i64 y, .int .i64 (x + 1), .int .i64 y, .int .i64 x, .int .i64 (y + 1), .int .i64 (x + 1), .int .i64 (y + 1)] 37)).heap.size) := by show _ ≤ _; rw [World.size_alloc]; exact Nat.le_refl _
  have HA3 := Lib.hid (HA.out.below hb3)
  have HB3 := Lib.hid (HB2.out.trans (hb3.mono HB2.out.size))
  have HFR3 := Lib.hid HFR.out
  have HOK : Hid (∀ c ∈ blockL x y, okC c) := fun c hc => by
    unfold blockL at hc
    simp only [List.mem_cons, List.not_mem_nil, or_false] at hc
    unfold okC okZ
    rcases hc with rfl | rfl | rfl | rfl <;> dsimp only <;> omega
  clear hb3 HB2
  generalize w2.alloc (.cells #[.int .i64 x, .int .i64 y, .int .i64 (x + 1), .int .i64 y, .int .i64 x, .int .i64 (y + 1), .int .i64 (x + 1), .int .i64 (y + 1)] 37) = w3 at *
  have HFM : Hid (Calls Try.prog 12 #[.pointer (some ⟨p, 0, none⟩), .int .i64 1, .slice (some ⟨w2.heap.size, 0, none⟩) 4 4] w3 (FromPost w3 p R S A 1 (blockL x y))) :=
    from_any w3 p R S A HA3.out 1 (by decide) (w2.heap.size + 1) 4 _ (blockL x y) HRD.out HSZ.out (by decide) HOK.out
  (with_reducible refine HFM.out.mono ?_)
  rintro e w4 ⟨k, hk, hk40, r, S1, A1, R1, bad1, rfl, hm, hh, hA1, hst⟩
  have hq1 : S.quota 1 = 200000 := HQU.out 1 (by decide)
  have hlaw := fun (κ : Nat) (q bad2 : Int) (L : List Thing) (S2 : ArS) (A2 : Nat → Abs) => still_law (S2 := S2) (A2 := A2) (κ := κ) (n := m) (q := q) (bad2 := bad2) (L := L) HV.out HRO.out hq1 hk hk40 hm hh
  obtain rfl : bad1 = 0 := (hlaw 0 0 0 [] S1 A1).1
  rw [if_pos rfl]
  have HLAW := Lib.hid (fun κ q bad2 L S2 A2 => (hlaw κ q bad2 L S2 A2).2)
  have HH := Lib.hid (hh rfl)
  have HA4 := Lib.hid hA1
  have HCAN := Lib.hid (least_can hk)
  have HST4 := Lib.hid hst
  have HK40 := Lib.hid hk40
  clear hlaw hh hA1 hk hst hm hk40 hq1 HFM
  have HSP : Hid (Calls Try.prog 13 #[.pointer (some ⟨p, 0, none⟩), .int .i64 1, .agg #[.int .i64 8, .int .i64 12], .int .i64 r, .int .i64 (m : Int)] w4 (StepsPost w4 p R1 S1 A1 1 8 12 (setOfL (blockL x y)) m)) :=
    steps_any w4 p R1 S1 A1 HA4.out 1 (by decide) 8 12 (by unfold goodR; omega) (setOfL (blockL x y)) k HCAN.out.1 (by have := HK40.out; omega) HCAN.out.2.1 m HML.out k (by have := HK40.out; omega) HCAN.out.1 (fun m' _ => by
      have h := HCAN.out.2.1
      rw [block_set] at h ⊢
      rw [block_evN]; exact h) r HH.out
  go_wp2_with fail
  (with_reducible refine HSP.out.mono ?_)
  rintro e w5 ⟨κ, L, r2, S2, A2, R2, bad2, rfl, hL, hg2, hh2, hA2, hst2⟩
  obtain ⟨rfl, rfl⟩ := HLAW.out κ r2 bad2 L S2 A2 hL hg2 (fun i hi hb => by
    have hle : 2 ^ i ≤ m := by
      refine Nat.le_of_not_lt fun hlt => ?_
      rw [Nat.div_eq_of_lt hlt] at hb
      cases hb
    refine Nat.le_of_not_lt fun hlt => ?_
    have h1 := Nat.pow_le_pow_right (n := 2) (by decide) (show 31 ≤ i from hlt)
    have h2 : 2 ^ 31 = 2147483648 := by decide
    have h3 := HML.out
    have h3 : m ≤ 1073741824 := h3
    omega) hh2
  have HB5 : Hid (Below W.heap.size W w5) := by
    obtain ⟨b1, f1⟩ := HST4.out.low HB3.out.size HFR.out
    obtain ⟨b2, _⟩ := hst2.low (Nat.le_trans HB3.out.size HST4.out.mod.size) f1
    exact (HB3.out.trans b1).trans b2
  rw [if_pos rfl]
  clear hL hg2 hh2 hA2 hst2 HSP
  go_wp2_with fail
  go_ret
  exact ⟨rfl, HB5.out⟩
end Go.Proofs.Ytgdijlpkbbfedaa

namespace Go.Proofs.Ytgdijlpkbbfedaa
open Go.RowKit

/-- A slice of our own that no arena's work touches. -/
theorem Rd.step {w w' : World} {p : Nat} {R R' : ArR} {v : Value} {n : Nat} {xs : List Value} (h : Rd w w.heap.size 2 v n xs) (hno : ∀ b, sblk v = some b → ¬ Own p R b) (hlt : ∀ b, sblk v = some b → b < w.heap.size) (hs : StepH NoX p R R' w w') :
    Rd w' w'.heap.size 2 v n xs ∧ (∀ b, sblk v = some b → ¬ Own p R' b) ∧ ∀ b, sblk v = some b → b < w'.heap.size := by
  have hsz := hs.mod.size
  obtain ⟨h1, A, cap, rfl, h2, h3, h4⟩ := h
  refine ⟨⟨h1, A, cap, rfl, h2, h3, fun hn => ?_⟩, fun b hb => hs.not (hlt b hb) (hno b hb), fun b hb => Nat.lt_of_lt_of_le (hlt b hb) hsz⟩
  obtain ⟨b, off, rfl, hb, hc⟩ := h4 hn
  refine ⟨b, off, rfl, by omega, fun j u hj => (hs.mod.cell (a := ⟨b, off + j, none⟩) hb fun ho => ?_).trans (hc j u hj)⟩
  rcases ho with ho | ho
  · exact hno b rfl ho
  · exact ho
end Go.Proofs.Ytgdijlpkbbfedaa

namespace Go.Proofs.Ytgdijlpkbbfedaa
open Go.RowKit

def gliderL : List (Int × Int) := [(1, 0), (2, 1), (0, 2), (1, 2), (2, 2)]
theorem gl_list : gl 0 = gliderL := rfl
theorem gl_zero : setOfL (gl 0) = moveP ((0 : Nat) : Int) ((0 : Nat) : Int) (setOfL (gl 0)) := gl_glide 0
theorem glAll_root {n J : Nat} (hJ : J < 21) {k : Nat} (hk : k < 24) : ∀ t ∈ nodes (rootT (moveP ((n % 2 ^ J : Nat) : Int) ((n % 2 ^ J : Nat) : Int) (setOfL (gl 0))) k), t ∈ glAll n :=
  wins_root (wins_mono (glide_wins (J + 2) (n % 2 ^ J) (by omega) (by omega) (Nat.mod_lt _ (Nat.two_pow_pos J))) fun x hx => by
    rcases List.mem_append.1 hx with h | h
    · exact List.mem_append_left _ h
    · exact List.mem_append_right _ (List.mem_flatMap.2 ⟨J, List.mem_range.2 hJ, h⟩)) hk
theorem gl_moved (n : Nat) : setOfL (gliderL.map (shC n n)) = moveP n n (setOfL (gl 0)) := by
  rw [gl_list]
  funext a c
  unfold setOfL moveP gliderL shC
  refine decide_eq_decide.2 ?_
  simp only [List.map_cons, List.map_nil, List.mem_cons, List.not_mem_nil, or_false, Prod.mk.injEq]
  omega
theorem gl_supp_any {n i : Nat} (hn : n < 2 ^ 20) (hi : i ≤ 4 * n) : Supp (evN 8 12 i (setOfL (gl 0))) 21 := fun a c hp => by
  rw [gl_zero, gl_time] at hp
  have h := gl_span (i % 4) _ _ hp
  have e : (2 : Int) ^ 21 = 2097152 := by decide
  have e2 : 2 ^ 20 = 1048576 := by decide
  rw [e]
  omega
theorem set_same {l t : List (Int × Int)} (h : Tid l t) : setOfL t = setOfL l := by
  funext a c
  unfold setOfL
  exact decide_eq_decide.2 (h.2 (a, c))
section
variable {S S1 S2 S3 : ArS} {A A1 A2 A3 : Nat → Abs} {n k κ : Nat} {p q r bad1 bad2 bad3 : Int} {L : List Thing}
theorem glide_law1 (hw : Within S [firstT]) (hroom : S.room = 200000) (hq : S.quota 1 = 200000) (hk : leastK gliderL k)
    (hm : Made 1 (nodes (rootT (setOfL gliderL) k)) S A 0 S1 A1 bad1) : bad1 = 0 ∧ Within S1 (firstT :: glAll n) ∧ S1.room = 200000 ∧ S1.quota 1 = 200000 ∧ Can (setOfL (gl 0)) k ∧ k ≤ 21 := by
  have hc := least_can hk
  rw [← gl_list] at hc
  have hs : Supp (setOfL (gl 0)) 21 := by
    have := gl_supp_any (n := 0) (i := 0) (by decide) (by omega)
    exact this
  have hk2 := hc.le (by decide) hs
  obtain ⟨e1, w1, _⟩ := hm.enough (firstT :: glAll n) (fun i x hd => by rw [List.mem_singleton.1 (hw i x hd)]; exact List.mem_cons_self) (fun x hx => List.mem_cons_of_mem _ (by
      have := glAll_root (n := n) (J := 0) (by decide) (k := k) (by omega)
      rw [show n % 2 ^ 0 = 0 by simp [Nat.mod_one], ← gl_zero] at this
      exact this x hx)) (by rw [List.length_cons, glAll_len, hroom]; decide) (by rw [List.length_cons, glAll_len, hq]; decide)
  exact ⟨e1, w1, hm.st.room.trans hroom, by rw [hm.st.quota]; exact hq, hc, hk2⟩
theorem glide_law2 (hn : n < 2 ^ 20) (hw : Within S1 (firstT :: glAll n)) (hroom : S1.room = 200000) (hq : S1.quota 1 = 200000) (hL : L.length ≤ 44 * 40)
    (hg : Grew 1 (fun V => StepsC 8 12 (setOfL (gl 0)) (4 * n) 40 V ∧ ∀ x ∈ L, x ∈ V) S1 A1 0 S2 A2 bad2) : bad2 = 0 ∧ Within S2 (firstT :: glAll n ++ L) ∧ S2.room = 200000 ∧ S2.quota 1 = 200000 := by
  have hlen : ((firstT :: glAll n ++ L).length : Int) < 200000 := by
    rw [List.length_append, List.length_cons, glAll_len]; omega
  obtain ⟨e2, w2, _⟩ := hg.enough (firstT :: glAll n ++ L) (fun i x hd => List.mem_append_left _ (hw i x hd)) ⟨fun i hi hb k' hk' => by
      obtain ⟨h1, h2⟩ := glide_steps hn i hi hb k' hk'
      exact ⟨fun x hx => List.mem_append_left _ (List.mem_cons_of_mem _ (h1 x hx)), (clo_mono h2 fun x hx => List.mem_append_left _ (List.mem_cons_of_mem _ hx))⟩, fun x hx => List.mem_append_right _ hx⟩ (by rw [hroom]; exact hlen) (by rw [hq]; exact hlen)
  exact ⟨e2, w2, hg.st.room.trans hroom, by rw [hg.st.quota]; exact hq⟩
theorem glide_law3 {t : List (Int × Int)} {k3 : Nat} (hn : n < 2 ^ 20) (hw : Within S2 (firstT :: glAll n ++ L)) (hroom : S2.room = 200000) (hq : S2.quota 1 = 200000) (hL : L.length ≤ 44 * 40)
    (hh : Has S2 A2 1 q (rootT (evN 8 12 (4 * n) (setOfL (gl 0))) κ)) (hc : Can (evN 8 12 (4 * n) (setOfL (gl 0))) κ) (ht : Tid (gliderL.map (shC n n)) t) (hk : leastK t k3)
    (hm : Made 1 (nodes (rootT (setOfL t) k3)) S2 A2 0 S3 A3 bad3) (hr : bad3 = 0 → Has S3 A3 1 r (rootT (setOfL t) k3)) : bad3 = 0 ∧ q = r := by
  have hlen : ((firstT :: glAll n ++ L).length : Int) < 200000 := by
    rw [List.length_append, List.length_cons, glAll_len]; omega
  have hc3 := least_can hk
  rw [set_same ht, gl_moved] at hm hr hc3
  rw [gl_glide] at hh hc
  have e := hc.uniq hc3
  subst e
  have hs : Supp (moveP n n (setOfL (gl 0))) 21 := by
    have := gl_supp_any (n := n) (i := 4 * n) hn (Nat.le_refl _)
    rw [gl_glide] at this
    exact this
  have hk2 := hc.le (by decide) hs
  obtain ⟨e3, _, _⟩ := hm.enough (firstT :: glAll n ++ L) hw (fun x hx => List.mem_append_left _ (List.mem_cons_of_mem _ (by
      have := glAll_root (n := n) (J := 20) (by decide) (k := κ) (by omega)
      rw [Nat.mod_eq_of_lt hn] at this
      exact this x hx))) (by rw [hroom]; exact hlen) (by rw [hq]; exact hlen)
  exact ⟨e3, Den.inj (hm.st.stay 1 (by decide) _ _ hh.2 hh.1) (hr e3).1⟩
end
set_option maxRecDepth 100000 in
set_option maxHeartbeats 6400000 in
theorem glides_any (W : World) (n : Int) (hn : -9223372036854775808 ≤ n ∧ n ≤ 9223372036854775807) :
    Calls Try.prog 5 #[.int .i64 n] W fun e W' => e = .returned (.bool true) ∧ Below W.heap.size W W' := by
  have HN := Lib.hid hn
  clear hn
  go_enter Try.func5, Try.ntmps5
  go_wp2_with fail
  (with_reducible refine (spot_any n 1048576 (by omega) (by omega) HN.out.1 HN.out.2 _).mono ?_)
  rintro e wq ⟨rfl, rfl⟩
  obtain ⟨m, hm, hml⟩ : ∃ m : Nat, n % 1048576 = m ∧ m < 1048576 := ⟨(n % 1048576).toNat, by omega, by omega⟩
  rw [hm]
  have HML := Lib.hid hml
  clear hm hml HN
  go_wp2_with fail
  (with_reducible refine (begunQ_any _).mono ?_)
  rintro e w2 ⟨p, R, S, A, rfl, hA, hnn, hro, hqu, hV, hb2, hfr⟩
  have HA := Lib.hid hA
  have HRO := Lib.hid hro
  have HQU := Lib.hid hqu
  have HV := Lib.hid hV
  have HB2 := Lib.hid hb2
  have HFR := Lib.hid hfr
  clear hA hnn hro hqu hV hb2 hfr
  go_wp2_with fail
  have HRD : Hid (Rd (w2.alloc (.cells #[.int .i64 1, .int .i64 0, .int .i64 2, .int .i64 1, .int .i64 0, .int .i64 2, .int .i64 1, .int .i64 2, .int .i64 2, .int .i64 2] 37)) (w2.heap.size + 1) 2 (.slice (some ⟨w2.heap.size, 0, none⟩) 5 5) 5 (flat gliderL)) := fresh_cells w2 gliderL 5 rfl (by unfold maxLen; omega)
  have hb3 : Below w2.heap.size w2 (w2.alloc (.cells #[.int .i64 1, .int .i64 0, .int .i64 2, .int .i64 1, .int .i64 0, .int .i64 2, .int .i64 1, .int .i64 2, .int .i64 2, .int .i64 2] 37)) := (Below.refl _ _).alloc (Nat.le_refl _) _
  have HSZ : Hid (w2.heap.size + 1 = (w2.alloc (.cells #[.int .i64 1, .int .i64 0, .int .i64 2, .int .i64 1, .int .i64 0, .int .i64 2, .int .i64 1, .int .i64 2, .int .i64 2, .int .i64 2] 37)).heap.size) := by show _ = _; rw [World.size_alloc]
  have HNO : Hid (¬ Own p R w2.heap.size) := fun ho => Nat.lt_irrefl _ (HA.out.arm.own_lt ho)
  have HA3 := Lib.hid (HA.out.below hb3)
  have HB3 := Lib.hid (HB2.out.trans (hb3.mono HB2.out.size))
  have HFR3 := Lib.hid HFR.out
  have HOK : Hid (∀ c ∈ gliderL, okC c) := fun c hc => by
    unfold gliderL at hc
    simp only [List.mem_cons, List.not_mem_nil, or_false] at hc
    unfold okC okZ
    rcases hc with rfl | rfl | rfl | rfl | rfl <;> dsimp only <;> omega
  have HOK2 : Hid (∀ c ∈ gliderL, okC (shC m m c)) := fun c hc => by
    have := HML.out
    unfold gliderL at hc
    simp only [List.mem_cons, List.not_mem_nil, or_false] at hc
    unfold okC okZ shC
    rcases hc with rfl | rfl | rfl | rfl | rfl <;> dsimp only <;> omega
  clear hb3 HB2
  generalize w2.alloc (.cells #[.int .i64 1, .int .i64 0, .int .i64 2, .int .i64 1, .int .i64 0, .int .i64 2, .int .i64 1, .int .i64 2, .int .i64 2, .int .i64 2] 37) = w3 at *
  have HRDA : Hid (Rd w3 w3.heap.size 2 (.slice (some ⟨w2.heap.size, 0, none⟩) 5 5) 5 (flat gliderL)) := by have := HRD.out; rw [HSZ.out] at this; exact this
  have HFM : Hid (Calls Try.prog 12 #[.pointer (some ⟨p, 0, none⟩), .int .i64 1, .slice (some ⟨w2.heap.size, 0, none⟩) 5 5] w3 (FromPost w3 p R S A 1 gliderL)) :=
    from_any w3 p R S A HA3.out 1 (by decide) w3.heap.size 5 _ gliderL HRDA.out (Nat.le_refl _) (by decide) HOK.out
  (with_reducible refine HFM.out.mono ?_)
  rintro e w4 ⟨k, hk, hk40, r, S1, A1, R1, bad1, rfl, hm, hh, hA1, hst⟩
  have hq1 : S.quota 1 = 200000 := HQU.out 1 (by decide)
  obtain ⟨rfl, hw1, hro1, hqu1, hcan, hk21⟩ := glide_law1 (n := m) HV.out HRO.out hq1 hk hm
  obtain ⟨hrd4, hno4, hlt4⟩ := HRDA.out.step (fun b hb => by cases hb; exact HNO.out) (fun b hb => by cases hb; show w2.heap.size < w3.heap.size; have := HSZ.out; omega) hst
  rw [if_pos rfl]
  have HLW1 := Lib.hid (And.intro hw1 (And.intro hro1 hqu1))
  have HH := Lib.hid (hh rfl)
  have HA4 := Lib.hid hA1
  have HCAN := Lib.hid hcan
  have HST4 := Lib.hid hst
  have HK21 := Lib.hid hk21
  have HRD4 := Lib.hid (And.intro hrd4 (And.intro hno4 hlt4))
  clear hh hA1 hk hst hm hk40 hq1 HFM hw1 hro1 hqu1 hcan hk21 hrd4 hno4 hlt4
  have hm4 : 4 * (m : Int) = ((4 * m : Nat) : Int) := by omega
  have HSP : Hid (Calls Try.prog 13 #[.pointer (some ⟨p, 0, none⟩), .int .i64 1, .agg #[.int .i64 8, .int .i64 12], .int .i64 r, .int .i64 (4 * (m : Int))] w4 (StepsPost w4 p R1 S1 A1 1 8 12 (setOfL (gl 0)) (4 * m))) := by
    show Calls _ _ _ _ _
    rw [hm4]
    exact steps_any w4 p R1 S1 A1 HA4.out 1 (by decide) 8 12 (by unfold goodR; omega) (setOfL (gl 0)) k HCAN.out.1 (by have := HK21.out; omega) HCAN.out.2.1 (4 * m) (by have := HML.out; omega) 21 (by decide) (by decide) (fun m' h => gl_supp_any HML.out h) r HH.out
  clear hm4
  have hml := HML.out
  go_wp2_with fail
  clear hml
  (with_reducible refine HSP.out.mono ?_)
  rintro e w5 ⟨κ, L, r2, S2, A2, R2, bad2, rfl, hL, hg2, hh2, hA2, hst2⟩
  obtain ⟨rfl, hw2, hro2, hqu2⟩ := glide_law2 HML.out HLW1.out.1 HLW1.out.2.1 HLW1.out.2.2 hL hg2
  obtain ⟨hrd5, hno5, hlt5⟩ := HRD4.out.1.step HRD4.out.2.1 HRD4.out.2.2 hst2
  rw [if_pos rfl]
  have HLW2 := Lib.hid (And.intro hw2 (And.intro hro2 hqu2))
  have HL := Lib.hid hL
  have HH2 := Lib.hid (hh2 rfl)
  have HA5 := Lib.hid hA2
  have HST5 := Lib.hid hst2
  have HRD5 := Lib.hid hrd5
  clear hL hg2 hh2 hA2 hst2 HSP hw2 hro2 hqu2 hrd5 hno5 hlt5
  have hml := HML.out
  have HSH : Hid (Calls Try.prog 14 #[.slice (some ⟨w2.heap.size, 0, none⟩) 5 5, .int .i64 m, .int .i64 m] w5 (TidyPost w5 (gliderL.map (shC m m)))) := shift_ok w5 5 _ gliderL m m HRD5.out (by decide) HOK.out HOK2.out (by omega) (by omega) (by omega) (by omega)
  clear hml
  go_wp2_with fail
  (with_reducible refine HSH.out.mono ?_)
  rintro e w6 ⟨AA, mm, t, rfl, htid, hsl, hfr6, hb6⟩
  have HTID := Lib.hid htid
  have HA6 := Lib.hid (HA5.out.below hb6)
  have hmm : t.length = mm := by have := hsl.rd.pairs.1; exact this
  have HLEN : Hid (mm ≤ 4096) := by
    have h5 : t.length ≤ 5 := by
      have := tid_length htid
      simpa [gliderL] using this
    show mm ≤ 4096; omega
  have HOKT : Hid (∀ c ∈ t, okC c) := fun c hc => by
    obtain ⟨d, hd, rfl⟩ := List.mem_map.1 ((HTID.out.2 c).1 hc)
    exact HOK2.out d hd
  have HSL := Lib.hid hsl.rd
  have HB6 := Lib.hid hb6
  clear htid hsl hfr6 hb6 hmm HSH
  have HFM : Hid (Calls Try.prog 12 #[.pointer (some ⟨p, 0, none⟩), .int .i64 1, .slice AA mm mm] w6 (FromPost w6 p R2 S2 A2 1 t)) :=
    from_any w6 p R2 S2 A2 HA6.out 1 (by decide) w6.heap.size mm _ t HSL.out (Nat.le_refl _) HLEN.out HOKT.out
  go_wp2_with fail
  (with_reducible refine HFM.out.mono ?_)
  rintro e w7 ⟨k3, hk, hk40, r3, S3, A3, R3, bad3, rfl, hm, hh, hA1, hst⟩
  obtain ⟨rfl, rfl⟩ := glide_law3 HML.out HLW2.out.1 HLW2.out.2.1 HLW2.out.2.2 HL.out HH2.out.1 HH2.out.2 HTID.out hk hm hh
  have HB7 : Hid (Below W.heap.size W w7) := by
    obtain ⟨b1, f1⟩ := HST4.out.low HB3.out.size HFR.out
    obtain ⟨b2, f2⟩ := HST5.out.low (Nat.le_trans HB3.out.size HST4.out.mod.size) f1
    have hsz5 : W.heap.size ≤ w5.heap.size := Nat.le_trans (Nat.le_trans HB3.out.size HST4.out.mod.size) HST5.out.mod.size
    obtain ⟨b3, _⟩ := hst.low (Nat.le_trans hsz5 HB6.out.size) f2
    exact (((HB3.out.trans b1).trans b2).trans (HB6.out.mono hsz5)).trans b3
  rw [if_pos rfl]
  clear hk hk40 hm hh hA1 hst HFM
  go_wp2_with fail
  go_ret
  exact ⟨rfl, HB7.out⟩
end Go.Proofs.Ytgdijlpkbbfedaa

namespace Go.Proofs.Ytgdijlpkbbfedaa
open Go.ChangeShapes Go.WideShapes Go.ChangeAt Go.RowKit

set_option maxRecDepth 100000 in
theorem leapGlides_lifted (os : Os) (started : os.Started) (H : Type) (enc : TypeId × Value → H) :
    ReturnsInHanded {} Try.checked os 5 .any (Rows.leapGlidesSpec.pre6 enc Try.prog Try.f5 Rows.leapGlidesRow.domain false) (Rows.leapGlidesSpec.post enc Try.prog Try.f5 false true false false) := by
  refine returnsInHanded_of_change_sized (C := Try.checked) Try.ownC started (by kernel_rfl) Try.func5
    (ChangeSpec.witness6 (enc := enc) (C := Try.checked) false ⟨#[], #[.int .i64 0], []⟩ 8 (by kernel_rfl) (by kernel_rfl) (by kernel_rfl) (by kernel_rfl)) ?_
  intro W base args ds gs before hval0 hW hcnd hsz0 _
  have hval : ∀ (j : Nat) t v, Try.f5.params[j]? = some t → args[j]? = some v → Value.okWide Try.prog W .any base t v := hval0
  clear hsz0
  have hW' := hW
  obtain ⟨p, q, hA0, hV, rfl, hfz, hnd⟩ := hW
  have hA : DataW.TrodAll enc Try.prog W 0 (fun _ => true) true Try.f5.params.toList args.toList ds p := hA0
  rw [Try.params5] at hA hval
  obtain ⟨v0, d0, rfl, rfl, h0⟩ := trodAll_one hA
  obtain ⟨rfl, rfl⟩ := trodVars_none hV
  obtain ⟨x0, rfl, rfl, rfl, w0⟩ := open_int Try.underlying3 (hval 0 3 v0 rfl rfl) h0
  have hb0 : -9223372036854775808 ≤ x0 ∧ x0 ≤ 9223372036854775807 := by simpa [Lit.wf, IntKind.min, IntKind.max, IntKind.signed, IntKind.bits] using w0
  refine (glides_any W x0 hb0).mono fun e W' ⟨he, hb⟩ => ?_
  subst he
  exact ⟨_, rfl, law_post Try.laidOutC (by rw [Try.params5]; intro t ht; simp at ht; rcases ht with rfl <;> exact ⟨by kernel_rfl, of_decide_eq_true (by kernel_rfl)⟩) rfl hW' hb (tb := 4) rfl Try.underlying4 rfl rfl rfl⟩

theorem leapGlides_holds : Rows.LeapGlidesSaid :=
  OpenClaim.holds_of_wide 5 Try.f5 rfl rfl rfl rfl rfl rfl rfl ⟨rfl, rfl, rfl, rfl, rfl⟩ rfl rfl rfl rfl rfl (by kernel_rfl) Try.func5 (by kernel_rfl)
    (of_decide_eq_true (by kernel_rfl)) (by unfold Func.isWrapper; rw [if_neg (of_decide_eq_false (by kernel_rfl))]; exact ⟨rfl, rfl⟩)
    (fun os started H enc _ => leapGlides_lifted os started H enc)
#print axioms leapGlides_holds
end Go.Proofs.Ytgdijlpkbbfedaa
