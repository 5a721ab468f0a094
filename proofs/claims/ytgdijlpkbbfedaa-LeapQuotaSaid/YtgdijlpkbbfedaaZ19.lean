/- leap: moved cells; their squares and steps. No program is named here. · LeapStill: the plain law: a block of four cells stays, and how many squares it has. · LeapStill: all squares and notes of a block of four cells. · leap: a window that meets no cell is empty. · leap: what a leap asks for lies in a list that has all its windows. No program is named here. · leap: how many squares and notes a leap of cells in a box asks for. No program is named here. · LeapStill: the walk. · leap: the laws of Steps for cells in a small box. No program is named here. · A slice that no arena's work touches. · Two arenas side by side; an arena's limit. · quad: cells of a small box; literal tenants. -/
import Derived.Test.YtgdijlpkbbfedaaZ5
import Derived.Test.YtgdijlpkbbfedaaZ16
import Derived.Test.YtgdijlpkbbfedaaZ13
import Derived.Test.YtgdijlpkbbfedaaZ1
import Derived.Test.YtgdijlpkbbfedaaZ6
import Derived.Test.YtgdijlpkbbfedaaZ12
import Derived.Test.YtgdijlpkbbfedaaZ17
import Derived.Test.YtgdijlpkbbfedaaZ18

namespace Go.Proofs.Ytgdijlpkbbfedaa
open Go.RowKit

/-- Moved cells. -/
def moveP (dx dy : Int) (P : Int → Int → Bool) (x y : Int) : Bool := P (x - dx) (y - dy)
theorem ev_move (b l dx dy : Int) (P : Int → Int → Bool) : ev b l (moveP dx dy P) = moveP dx dy (ev b l P) := by
  funext x y
  unfold ev nearP oneP moveP
  have e : ∀ a d c : Int, a - d - c = a - c - d ∧ a + d - c = a - c + d := fun a d c => by omega
  simp only [e]
theorem evN_move (b l dx dy : Int) (P : Int → Int → Bool) : ∀ m, evN b l m (moveP dx dy P) = moveP dx dy (evN b l m P)
  | 0 => rfl
  | m + 1 => by rw [evN, evN_move b l dx dy P m, ev_move]; rfl
theorem moveP_moveP (a b c d : Int) (P : Int → Int → Bool) : moveP a b (moveP c d P) = moveP (c + a) (d + b) P := by
  funext x y
  unfold moveP
  congr 1 <;> omega
theorem treeOf_move (a b : Int) (P : Int → Int → Bool) : ∀ (n : Nat) (x y : Int), treeOf (moveP a b P) n x y = treeOf P n (x - a) (y - b)
  | 0, _, _ => rfl
  | n + 1, x, y => by
    simp only [treeOf]
    rw [treeOf_move a b P n, treeOf_move a b P n, treeOf_move a b P n, treeOf_move a b P n]
    rw [show x + 2 ^ n - a = x - a + 2 ^ n by omega, show y + 2 ^ n - b = y - b + 2 ^ n by omega]
end Go.Proofs.Ytgdijlpkbbfedaa

namespace Go.Proofs.Ytgdijlpkbbfedaa
open Go.RowKit

def blockP (dx dy : Int) (x y : Int) : Bool := decide ((dx ≤ x ∧ x ≤ dx + 1) ∧ dy ≤ y ∧ y ≤ dy + 1)
theorem block_one (dx dy a c : Int) : oneP (blockP dx dy) a c = if (dx ≤ a ∧ a ≤ dx + 1) ∧ dy ≤ c ∧ c ≤ dy + 1 then 1 else 0 := by
  unfold oneP blockP
  by_cases h : (dx ≤ a ∧ a ≤ dx + 1) ∧ dy ≤ c ∧ c ≤ dy + 1
  · rw [if_pos h, if_pos (decide_eq_true h)]
  · rw [if_neg h, if_neg (by simpa using h)]
theorem block_still (dx dy : Int) : ev 8 12 (blockP dx dy) = blockP dx dy := by
  funext x y
  have hx : x < dx - 1 ∨ x = dx - 1 ∨ x = dx ∨ x = dx + 1 ∨ x = dx + 2 ∨ dx + 2 < x := by omega
  have hy : y < dy - 1 ∨ y = dy - 1 ∨ y = dy ∨ y = dy + 1 ∨ y = dy + 2 ∨ dy + 2 < y := by omega
  unfold ev nearP
  simp only [block_one]
  rcases hx with hx | rfl | rfl | rfl | rfl | hx <;> rcases hy with hy | rfl | rfl | rfl | rfl | hy <;>
    (simp (disch := omega) only [if_pos, if_neg]
     unfold blockP
     first
       | (rw [decide_eq_true (by omega)]; decide)
       | (rw [decide_eq_false (by omega)]; decide))
theorem block_evN (dx dy : Int) : ∀ m, evN 8 12 m (blockP dx dy) = blockP dx dy
  | 0 => rfl
  | m + 1 => by rw [evN, block_evN dx dy m, block_still]
end Go.Proofs.Ytgdijlpkbbfedaa

namespace Go.Proofs.Ytgdijlpkbbfedaa
open Go.RowKit

theorem flat_len {α β : Type} {f : α → List β} {c : Nat} : ∀ {l : List α}, (∀ x ∈ l, (f x).length = c) → (l.flatMap f).length = l.length * c
  | [], _ => by simp
  | a :: l, h => by
    rw [List.flatMap_cons, List.length_append, h a List.mem_cons_self, flat_len (fun x hx => h x (List.mem_cons_of_mem _ hx)), List.length_cons, Nat.add_mul]
    omega
/-- The squares of level 1. -/
def leafB (b : Bool) : Tree := if b then .alive else .dead
def onesL : List Thing := [false, true].flatMap fun a => [false, true].flatMap fun b => [false, true].flatMap fun c => [false, true].map fun d => Thing.sq (leafB a) (leafB b) (leafB c) (leafB d)
theorem onesL_len : onesL.length = 16 := by rfl
theorem onesL_mem (Q : Int → Int → Bool) (x y : Int) : sqOf (treeOf Q 1 x y) ∈ onesL := by
  have key : ∀ a b c d : Bool, Thing.sq (leafB a) (leafB b) (leafB c) (leafB d) ∈ onesL := by decide
  exact key (Q x y) (Q (x + 2 ^ 0) y) (Q x (y + 2 ^ 0)) (Q (x + 2 ^ 0) (y + 2 ^ 0))
/-- The windows of a level that a block may meet, and the empty one. -/
def treesAt (dx dy : Int) (m : Nat) : List Tree := emptyT (m + 2) :: (List.range 5).flatMap fun i : Nat => (List.range 5).map fun k : Nat => treeOf (blockP dx dy) (m + 2) (2 ^ m * (dx / 2 ^ m - 3 + (i : Int))) (2 ^ m * (dy / 2 ^ m - 3 + (k : Int)))
theorem treesAt_len (dx dy : Int) (m : Nat) : (treesAt dx dy m).length = 26 := by
  unfold treesAt
  rw [List.length_cons, flat_len (c := 5) fun i _ => by simp]
  simp
theorem at_place {z d a : Int} (hz : 0 < z) (h1 : z * a ≤ d + 1) (h2 : d < z * a + 4 * z) : ∃ i : Nat, i < 5 ∧ a = d / z - 3 + (i : Int) := by
  have e1 := Int.mul_ediv_add_emod d z
  have e2 := Int.emod_nonneg d (show z ≠ 0 by omega)
  have e3 := Int.emod_lt_of_pos d hz
  generalize d / z = q at *
  have k1 : z * a ≤ z * (q + 1) := by rw [Int.mul_add]; omega
  have k2 : z * (q - 4) < z * a := by rw [Int.mul_sub]; omega
  have k3 := Int.le_of_mul_le_mul_left k1 hz
  have k4 := Int.lt_of_mul_lt_mul_left k2 (by omega)
  exact ⟨(a - (q - 3)).toNat, by omega, by omega⟩
theorem treesAt_mem (dx dy : Int) (m : Nat) {x y : Int} (hx : (2 : Int) ^ m ∣ x) (hy : (2 : Int) ^ m ∣ y) : treeOf (blockP dx dy) (m + 2) x y ∈ treesAt dx dy m := by
  obtain ⟨a, rfl⟩ := hx
  obtain ⟨c, rfl⟩ := hy
  have hz := pow_pos2 m
  have h4 : (2 : Int) ^ (m + 2) = 4 * 2 ^ m := by rw [Int.pow_succ, Int.pow_succ]; omega
  by_cases h : (2 ^ m * a ≤ dx + 1 ∧ dx < 2 ^ m * a + 4 * 2 ^ m) ∧ 2 ^ m * c ≤ dy + 1 ∧ dy < 2 ^ m * c + 4 * 2 ^ m
  · obtain ⟨i, hi, ei⟩ := at_place hz h.1.1 h.1.2
    obtain ⟨k, hk, ek⟩ := at_place hz h.2.1 h.2.2
    refine List.mem_cons_of_mem _ (List.mem_flatMap.2 ⟨i, List.mem_range.2 hi, List.mem_map.2 ⟨k, List.mem_range.2 hk, ?_⟩⟩)
    rw [← ei, ← ek]
  · rw [treeOf_none]
    · exact List.mem_cons_self
    · intro p q hb
      unfold inB at hb
      rw [h4] at hb
      unfold blockP
      rw [decide_eq_false]
      generalize (2 : Int) ^ m * a = A at *
      generalize (2 : Int) ^ m * c = C at *
      generalize (2 : Int) ^ m = z at *
      omega
def stillV (dx dy : Int) : List Thing := onesL ++ (List.range 43).flatMap fun m => (treesAt dx dy m).flatMap fun T => sqOf T :: (List.range 31).map fun s : Nat => Thing.note T (codeR 8 12) (s : Int)
theorem stillV_len (dx dy : Int) : (stillV dx dy).length = 35792 := by
  unfold stillV
  rw [List.length_append, onesL_len, flat_len (c := 832) fun m _ => by rw [flat_len (c := 32) fun T _ => by simp, treesAt_len], List.length_range]
theorem stillV_sq {dx dy : Int} {m : Nat} (hm : m < 43) {x y : Int} (hx : (2 : Int) ^ m ∣ x) (hy : (2 : Int) ^ m ∣ y) : sqOf (treeOf (blockP dx dy) (m + 2) x y) ∈ stillV dx dy :=
  List.mem_append_right _ (List.mem_flatMap.2 ⟨m, List.mem_range.2 hm, List.mem_flatMap.2 ⟨_, treesAt_mem dx dy m hx hy, List.mem_cons_self⟩⟩)
theorem stillV_note {dx dy : Int} {m s : Nat} (hm : m < 43) (hs : s < 31) {x y : Int} (hx : (2 : Int) ^ m ∣ x) (hy : (2 : Int) ^ m ∣ y) : Thing.note (treeOf (blockP dx dy) (m + 2) x y) (codeR 8 12) (s : Int) ∈ stillV dx dy :=
  List.mem_append_right _ (List.mem_flatMap.2 ⟨m, List.mem_range.2 hm, List.mem_flatMap.2 ⟨_, treesAt_mem dx dy m hx hy, List.mem_cons_of_mem _ (List.mem_map.2 ⟨s, List.mem_range.2 hs, rfl⟩)⟩⟩)
theorem still_wins (dx dy : Int) (j : Nat) (hj : j ≤ 30) : Wins 8 12 (blockP dx dy) j 44 (stillV dx dy) where
  one := fun Q x y => List.mem_append_left _ (onesL_mem Q x y)
  full := fun m i x y hm _ hx hy => by
    rw [block_evN]
    have key : ∀ {a : Int}, (2 : Int) ^ (m + 1) ∣ a - i * 2 ^ m → (2 : Int) ^ m ∣ a := fun {a} h => by
      have h1 : (2 : Int) ^ m ∣ a - i * 2 ^ m := Int.dvd_trans ⟨2, Int.pow_succ 2 m⟩ h
      have := Int.dvd_add h1 (Int.dvd_mul_left (i : Int) (2 ^ m))
      rw [Int.sub_add_cancel] at this
      exact this
    exact ⟨stillV_sq (by omega) (key hx) (key hy), fun _ => stillV_note (by omega) (by omega) (key hx) (key hy)⟩
  up := fun m x y _ hM hx hy => ⟨stillV_sq (by omega) hx hy, stillV_note (by omega) (by omega) hx hy⟩
  out := fun m x y hm hM hx hy => by
    rw [block_evN]
    cases m with
    | zero => exact List.mem_append_left _ (onesL_mem _ _ _)
    | succ k =>
      have hd : (2 : Int) ^ k ∣ 2 ^ (k + 1) := ⟨2, Int.pow_succ 2 k⟩
      exact stillV_sq (by omega) (Int.dvd_trans hd hx) (Int.dvd_trans hd hy)
theorem still_nodes (dx dy : Int) : ∀ (n : Nat) (x y : Int), n ≤ 44 → (2 : Int) ^ (n - 2) ∣ x → (2 : Int) ^ (n - 2) ∣ y → ∀ t ∈ nodes (treeOf (blockP dx dy) n x y), t ∈ stillV dx dy
  | 0, x, y, _, _, _, t, ht => by
    simp only [treeOf] at ht
    split at ht <;> simp [nodes] at ht
  | 1, x, y, _, _, _, t, ht => by
    have leaf : ∀ a c, t ∉ nodes (treeOf (blockP dx dy) 0 a c) := fun a c h => by
      simp only [treeOf] at h
      split at h <;> simp [nodes] at h
    have ht := mem_nodes.1 ht
    rcases ht with rfl | h | h | h | h
    · exact List.mem_append_left _ (onesL_mem _ x y)
    · exact absurd h (leaf _ _)
    · exact absurd h (leaf _ _)
    · exact absurd h (leaf _ _)
    · exact absurd h (leaf _ _)
  | n + 2, x, y, hn, hx, hy, t, ht => by
    have hx : (2 : Int) ^ n ∣ x := hx
    have hy : (2 : Int) ^ n ∣ y := hy
    have hd : (2 : Int) ^ (n + 1 - 2) ∣ 2 ^ n := by
      have e : n = n + 1 - 2 + (n - (n + 1 - 2)) := by omega
      exact ⟨2 ^ (n - (n + 1 - 2)), by rw [← Int.pow_add]; congr 1⟩
    have hp : (2 : Int) ^ (n + 1 - 2) ∣ 2 ^ (n + 1) := Int.dvd_trans hd ⟨2, Int.pow_succ 2 n⟩
    have x0 := Int.dvd_trans hd hx
    have y0 := Int.dvd_trans hd hy
    have x1 := Int.dvd_add x0 hp
    have y1 := Int.dvd_add y0 hp
    have ht := mem_nodes.1 ht
    rcases ht with rfl | h | h | h | h
    · exact stillV_sq (m := n) (by omega) hx hy
    · exact still_nodes dx dy (n + 1) _ _ (by omega) x0 y0 t h
    · exact still_nodes dx dy (n + 1) _ _ (by omega) x1 y0 t h
    · exact still_nodes dx dy (n + 1) _ _ (by omega) x0 y1 t h
    · exact still_nodes dx dy (n + 1) _ _ (by omega) x1 y1 t h
theorem pow_dvd2 {m n : Nat} (h : m ≤ n) : (2 : Int) ^ m ∣ 2 ^ n := ⟨2 ^ (n - m), by rw [← Int.pow_add]; congr 1; omega⟩
theorem still_root (dx dy : Int) {k : Nat} (hk : k ≤ 43) : ∀ t ∈ nodes (rootT (blockP dx dy) k), t ∈ stillV dx dy := fun t ht => by
  have hd : (2 : Int) ^ (k + 1 - 2) ∣ -2 ^ k := Int.dvd_neg.2 (pow_dvd2 (by omega))
  exact still_nodes dx dy (k + 1) _ _ (by omega) hd hd t ht
theorem still_blank (dx dy : Int) {m : Nat} (hm : m ≤ 44) : ∀ t ∈ nodes (emptyT m), t ∈ stillV dx dy := fun t ht => by
  have hz := pow_pos2 m
  have e : treeOf (blockP dx dy) m (2 ^ m * (dx.toNat + dy.toNat + 2 : Nat)) (2 ^ m * (dx.toNat + dy.toNat + 2 : Nat)) = emptyT m := by
    refine treeOf_none fun a c hb => ?_
    unfold inB at hb
    unfold blockP
    rw [decide_eq_false]
    rintro ⟨⟨_, h2⟩, _⟩
    have h3 : (1 : Int) * ((dx.toNat + dy.toNat + 2 : Nat) : Int) ≤ 2 ^ m * ((dx.toNat + dy.toNat + 2 : Nat) : Int) := Int.mul_le_mul_of_nonneg_right (by omega) (by omega)
    omega
  rw [← e] at ht
  have hd : (2 : Int) ^ (m - 2) ∣ 2 ^ m * ((dx.toNat + dy.toNat + 2 : Nat) : Int) := Int.dvd_trans (pow_dvd2 (by omega)) (Int.dvd_mul_right _ _)
  exact still_nodes dx dy m _ _ hm hd hd t ht
theorem still_leapC {dx dy : Int} {k j : Nat} (hs : Supp (blockP dx dy) k) (hk : k ≤ 41) (hj : j ≤ 30) : LeapC 8 12 (blockP dx dy) k j (stillV dx dy) := by
  have hK : leapK k j ≤ 43 := by unfold leapK; omega
  have hK2 : k + 2 ≤ leapK k j ∧ j + 2 ≤ leapK k j := by unfold leapK; omega
  constructor
  · have key : ∀ i, k + i ≤ leapK k j → ∀ x ∈ wrapsL (blockP dx dy) k i, x ∈ stillV dx dy := by
      intro i
      induction i with
      | zero => intro _ x hx; cases hx
      | succ i ih =>
        intro hi x hx
        rcases List.mem_append.1 hx with h | h
        · exact ih (by omega) x h
        · rcases wrap_new x h with q | q
          · rw [(hs.up (Nat.le_add_right k i)).clip] at q
            exact still_root dx dy (by omega) x q
          · exact still_blank dx dy (by omega) x q
    exact key _ (by omega)
  · obtain ⟨n, hn⟩ : ∃ n, leapK k j = n + 1 := ⟨leapK k j - 1, by omega⟩
    rw [hn]
    have hd : (2 : Int) ^ n ∣ -2 ^ (n + 1) := Int.dvd_neg.2 (pow_dvd2 (by omega))
    exact clo_up (still_wins dx dy j hj) n _ _ (by omega) (by omega) hd hd
end Go.Proofs.Ytgdijlpkbbfedaa

namespace Go.Proofs.Ytgdijlpkbbfedaa
open Go.RowKit

theorem span_empty {P : Int → Int → Bool} {lo hi : Int} (h : Span P lo hi) {n : Nat} {x y : Int} (hne : ¬ ((lo - 2 ^ n < x ∧ x < hi) ∧ lo - 2 ^ n < y ∧ y < hi)) : treeOf P n x y = emptyT n := by
  refine treeOf_none fun a b hb => ?_
  unfold inB at hb
  cases q : P a b
  · rfl
  · have := h a b q
    exact absurd ⟨⟨by omega, by omega⟩, by omega, by omega⟩ hne
end Go.Proofs.Ytgdijlpkbbfedaa

namespace Go.Proofs.Ytgdijlpkbbfedaa
open Go.RowKit

section
variable {b l : Int} {P : Int → Int → Bool} {j M : Nat} {V W : List Thing}
theorem wins_mono (h : Wins b l P j M V) (hv : ∀ x ∈ V, x ∈ W) : Wins b l P j M W where
  one := fun Q x y => hv _ (h.one Q x y)
  full := fun m i x y hm hi hx hy => ⟨hv _ (h.full m i x y hm hi hx hy).1, fun hh => hv _ ((h.full m i x y hm hi hx hy).2 hh)⟩
  up := fun m x y hj hM hx hy => ⟨hv _ (h.up m x y hj hM hx hy).1, hv _ (h.up m x y hj hM hx hy).2⟩
  out := fun m x y hj hM hx hy => hv _ (h.out m x y hj hM hx hy)
theorem wins_sq (h : Wins b l P j M V) {m : Nat} (hm : m + 2 ≤ M) {x y : Int} (hx : (2 : Int) ^ (m + 1) ∣ x) (hy : (2 : Int) ^ (m + 1) ∣ y) : sqOf (treeOf P (m + 2) x y) ∈ V := by
  by_cases hj : m + 1 ≤ j
  · have := (h.full m 0 x y hj (by rw [Nat.zero_mul]; exact Nat.zero_le _) (by simpa using hx) (by simpa using hy)).1
    rw [show evN b l (0 * 2 ^ m) P = P by rw [Nat.zero_mul]; rfl] at this
    exact this
  · exact (h.up m x y (by omega) hm (Int.dvd_trans (pow_dvd2 (Nat.le_succ m)) hx) (Int.dvd_trans (pow_dvd2 (Nat.le_succ m)) hy)).1
theorem wins_nodes (h : Wins b l P j M V) : ∀ (n : Nat) (x y : Int), n ≤ M → (2 : Int) ^ (n - 1) ∣ x → (2 : Int) ^ (n - 1) ∣ y → ∀ t ∈ nodes (treeOf P n x y), t ∈ V
  | 0, x, y, _, _, _, t, ht => by
    simp only [treeOf] at ht
    split at ht <;> simp [nodes] at ht
  | 1, x, y, _, _, _, t, ht => by
    have leaf : ∀ a c, t ∉ nodes (treeOf P 0 a c) := fun a c h => by
      simp only [treeOf] at h
      split at h <;> simp [nodes] at h
    have ht := mem_nodes.1 ht
    rcases ht with rfl | h' | h' | h' | h'
    · exact h.one _ x y
    · exact absurd h' (leaf _ _)
    · exact absurd h' (leaf _ _)
    · exact absurd h' (leaf _ _)
    · exact absurd h' (leaf _ _)
  | n + 2, x, y, hn, hx, hy, t, ht => by
    have hx : (2 : Int) ^ (n + 1) ∣ x := hx
    have hy : (2 : Int) ^ (n + 1) ∣ y := hy
    have hd : (2 : Int) ^ (n + 1 - 1) ∣ 2 ^ (n + 1) := pow_dvd2 (by omega)
    have x0 := Int.dvd_trans hd hx
    have y0 := Int.dvd_trans hd hy
    have x1 := Int.dvd_add x0 hd
    have y1 := Int.dvd_add y0 hd
    have ht := mem_nodes.1 ht
    rcases ht with rfl | h' | h' | h' | h'
    · exact wins_sq h hn hx hy
    · exact wins_nodes h (n + 1) _ _ (by omega) x0 y0 t h'
    · exact wins_nodes h (n + 1) _ _ (by omega) x1 y0 t h'
    · exact wins_nodes h (n + 1) _ _ (by omega) x0 y1 t h'
    · exact wins_nodes h (n + 1) _ _ (by omega) x1 y1 t h'
theorem wins_root (h : Wins b l P j M V) {k : Nat} (hk : k < M) : ∀ t ∈ nodes (rootT P k), t ∈ V := fun t ht =>
  wins_nodes h (k + 1) _ _ hk (Int.dvd_neg.2 (Int.dvd_refl _)) (Int.dvd_neg.2 (Int.dvd_refl _)) t ht
theorem wins_blank (h : Wins b l P j M V) {lo hi : Int} (hs : Span P lo hi) {m : Nat} (hm : m ≤ M) : ∀ t ∈ nodes (emptyT m), t ∈ V := fun t ht => by
  have hz := pow_pos2 m
  have e : treeOf P m (2 ^ m * (hi.toNat : Nat)) (2 ^ m * (hi.toNat : Nat)) = emptyT m := by
    refine span_empty hs fun hh => ?_
    have h3 : (1 : Int) * ((hi.toNat : Nat) : Int) ≤ 2 ^ m * ((hi.toNat : Nat) : Int) := Int.mul_le_mul_of_nonneg_right (by omega) (by omega)
    omega
  rw [← e] at ht
  have hd : (2 : Int) ^ (m - 1) ∣ 2 ^ m * ((hi.toNat : Nat) : Int) := Int.dvd_trans (pow_dvd2 (by omega)) (Int.dvd_mul_right _ _)
  exact wins_nodes h m _ _ hm hd hd t ht
theorem wins_leapC (h : Wins b l P j M V) {k : Nat} (hs : Supp P k) (hK : leapK k j < M) : LeapC b l P k j V := by
  have hK2 : k + 2 ≤ leapK k j ∧ j + 2 ≤ leapK k j := by unfold leapK; omega
  constructor
  · have key : ∀ i, k + i ≤ leapK k j → ∀ x ∈ wrapsL P k i, x ∈ V := by
      intro i
      induction i with
      | zero => intro _ x hx; cases hx
      | succ i ih =>
        intro hi x hx
        rcases List.mem_append.1 hx with h' | h'
        · exact ih (by omega) x h'
        · rcases wrap_new x h' with q | q
          · rw [(hs.up (Nat.le_add_right k i)).clip] at q
            exact wins_root h (by omega) x q
          · exact wins_blank h (supp_span.1 hs) (by omega) x q
    exact key _ (by omega)
  · obtain ⟨n, hn⟩ : ∃ n, leapK k j = n + 1 := ⟨leapK k j - 1, by omega⟩
    rw [hn]
    have hd : (2 : Int) ^ n ∣ -2 ^ (n + 1) := Int.dvd_neg.2 (pow_dvd2 (by omega))
    exact clo_up h n _ _ (by omega) (by omega) hd hd
end
/-- Squares and their notes. -/
def levV (c s : Int) (l : List Tree) : List Thing := l.flatMap fun T => [sqOf T, .note T c s]
theorem levV_len (c s : Int) (l : List Tree) : (levV c s l).length = l.length * 2 := flat_len fun _ _ => rfl
theorem levV_sq {c s : Int} {l : List Tree} {T : Tree} (h : T ∈ l) : sqOf T ∈ levV c s l := List.mem_flatMap.2 ⟨T, h, List.mem_cons_self⟩
theorem levV_note {c s : Int} {l : List Tree} {T : Tree} (h : T ∈ l) : Thing.note T c s ∈ levV c s l := List.mem_flatMap.2 ⟨T, h, List.mem_cons_of_mem _ List.mem_cons_self⟩
theorem mem_grid {n m : Nat} {f : Nat → Nat → Tree} {T : Tree} (i k : Nat) (hi : i < n) (hk : k < m) (e : T = f i k) : T ∈ (List.range n).flatMap fun i => (List.range m).map fun k => f i k :=
  List.mem_flatMap.2 ⟨i, List.mem_range.2 hi, List.mem_map.2 ⟨k, List.mem_range.2 hk, e.symm⟩⟩
theorem grid_len (n m : Nat) (f : Nat → Nat → Tree) : ((List.range n).flatMap fun i => (List.range m).map fun k => f i k).length = n * m := by
  rw [flat_len (c := m) fun i _ => by simp, List.length_range]
end Go.Proofs.Ytgdijlpkbbfedaa

namespace Go.Proofs.Ytgdijlpkbbfedaa
open Go.RowKit

/-- All that lives lies in a box. -/
def Box2 (P : Int → Int → Bool) (lx ly : Int) (w : Nat) : Prop := ∀ a c, P a c = true → lx ≤ a ∧ a < lx + w ∧ ly ≤ c ∧ c < ly + w
theorem Box2.span {P : Int → Int → Bool} {lx ly : Int} {w : Nat} (h : Box2 P lx ly w) : Span (moveP (-lx) (-ly) P) 0 w := fun a c hp => by
  have := h _ _ hp
  omega
theorem Box2.of {P : Int → Int → Bool} {lx ly lo hi : Int} (h : Span (moveP (-lx) (-ly) P) lo hi) {w : Nat} (hw : hi - lo ≤ w) : Box2 P (lx + lo) (ly + lo) w := fun a c hp => by
  have := h (a - lx) (c - ly) (by unfold moveP; rw [show a - lx - -lx = a by omega, show c - ly - -ly = c by omega]; exact hp)
  omega
theorem Box2.evN {b l : Int} (hg : goodR b l) {P : Int → Int → Bool} {lx ly : Int} {w : Nat} (h : Box2 P lx ly w) (m : Nat) : Box2 (evN b l m P) (lx - m) (ly - m) (w + 2 * m) := by
  have h1 := Span.evN hg h.span m
  rw [evN_move] at h1
  have h2 := Box2.of h1 (w := w + 2 * m) (by omega)
  rw [show lx + (0 - (m : Int)) = lx - m by omega, show ly + (0 - (m : Int)) = ly - m by omega] at h2
  exact h2
theorem Box2.empty {P : Int → Int → Bool} {lx ly : Int} {w : Nat} (h : Box2 P lx ly w) {n : Nat} {x y : Int} (hne : ¬ ((lx - 2 ^ n < x ∧ x < lx + w) ∧ ly - 2 ^ n < y ∧ y < ly + w)) : treeOf P n x y = emptyT n := by
  refine treeOf_none fun a c hb => ?_
  unfold inB at hb
  cases q : P a c
  · rfl
  · have := h a c q
    exact absurd ⟨⟨by omega, by omega⟩, by omega, by omega⟩ hne
theorem Box2.supp {P : Int → Int → Bool} {lx ly : Int} {w k : Nat} (h : Box2 P lx ly w) (hx1 : -2 ^ k ≤ lx) (hx2 : lx + w ≤ 2 ^ k) (hy1 : -2 ^ k ≤ ly) (hy2 : ly + w ≤ 2 ^ k) : Supp P k := fun a c hp => by
  have := h a c hp
  omega
/-- A number of the places of a grid. -/
def rowN (w n s : Nat) : Nat := (w + 2 ^ n) / s + 1
/-- The windows on a grid that a box may meet, and the empty one. -/
def gridT (Q : Int → Int → Bool) (n : Nat) (r : Int) (s : Nat) (lx ly : Int) (w : Nat) : List Tree :=
  emptyT n :: (List.range (rowN w n s)).flatMap fun i : Nat => (List.range (rowN w n s)).map fun k : Nat => treeOf Q n (r + s * ((lx - 2 ^ n - r) / s + 1 + (i : Int))) (r + s * ((ly - 2 ^ n - r) / s + 1 + (k : Int)))
def cntG (w n s : Nat) : Nat := rowN w n s * rowN w n s + 1
theorem gridT_len (Q : Int → Int → Bool) (n : Nat) (r : Int) (s : Nat) (lx ly : Int) (w : Nat) : (gridT Q n r s lx ly w).length = cntG w n s := by
  unfold gridT cntG
  rw [List.length_cons, grid_len]
theorem grid_place {n s w : Nat} {r lx a : Int} (hs : 0 < s) (h1 : lx - 2 ^ n < r + s * a) (h2 : r + s * a < lx + w) : ∃ i : Nat, i < rowN w n s ∧ a = (lx - 2 ^ n - r) / s + 1 + (i : Int) := by
  have hz : (0 : Int) < s := by omega
  have e1 := Int.mul_ediv_add_emod (lx - 2 ^ n - r) s
  have e2 := Int.emod_nonneg (lx - 2 ^ n - r) (show (s : Int) ≠ 0 by omega)
  have e3 := Int.emod_lt_of_pos (lx - 2 ^ n - r) hz
  generalize (lx - 2 ^ n - r) / (s : Int) = q at *
  have k2 : (s : Int) * q < s * a := by omega
  have k4 := Int.lt_of_mul_lt_mul_left k2 (by omega)
  obtain ⟨i, hi⟩ : ∃ i : Nat, a = q + 1 + (i : Int) := ⟨(a - q - 1).toNat, by omega⟩
  refine ⟨i, ?_, hi⟩
  subst hi
  have hp : ((2 ^ n : Nat) : Int) = (2 : Int) ^ n := by simp
  have k5 : (s : Int) * i < w + 2 ^ n := by rw [Int.mul_add, Int.mul_add] at h2; omega
  have k6 : s * i < w + 2 ^ n := by
    have : ((s * i : Nat) : Int) < ((w + 2 ^ n : Nat) : Int) := by rw [Int.natCast_mul, Int.natCast_add, hp]; exact k5
    omega
  unfold rowN
  exact Nat.lt_succ_of_le ((Nat.le_div_iff_mul_le hs).2 (by rw [Nat.mul_comm]; omega))
theorem gridT_mem {Q : Int → Int → Bool} {n s w : Nat} {r lx ly : Int} (hs : 0 < s) (h : Box2 Q lx ly w) {x y : Int} (hx : (s : Int) ∣ x - r) (hy : (s : Int) ∣ y - r) : treeOf Q n x y ∈ gridT Q n r s lx ly w := by
  obtain ⟨a, ha⟩ := hx
  obtain ⟨c, hc⟩ := hy
  obtain rfl : x = r + s * a := by omega
  obtain rfl : y = r + s * c := by omega
  by_cases hh : (lx - 2 ^ n < r + s * a ∧ r + s * a < lx + w) ∧ ly - 2 ^ n < r + s * c ∧ r + s * c < ly + w
  · obtain ⟨i, hi, ei⟩ := grid_place hs hh.1.1 hh.1.2
    obtain ⟨k, hk, ek⟩ := grid_place hs hh.2.1 hh.2.2
    refine List.mem_cons_of_mem _ (mem_grid i k hi hk ?_)
    rw [← ei, ← ek]
  · rw [h.empty hh]
    exact List.mem_cons_self
/-- All squares of the two lowest levels. -/
def tilesT : List Tree := [false, true].flatMap fun a => [false, true].flatMap fun b => [false, true].flatMap fun c => [false, true].map fun d => Tree.node (leafB a) (leafB b) (leafB c) (leafB d)
theorem tilesT_len : tilesT.length = 16 := by rfl
theorem tilesT_mem (Q : Int → Int → Bool) (x y : Int) : treeOf Q 1 x y ∈ tilesT := by
  have key : ∀ a b c d : Bool, Tree.node (leafB a) (leafB b) (leafB c) (leafB d) ∈ tilesT := by decide
  exact key (Q x y) (Q (x + 2 ^ 0) y) (Q x (y + 2 ^ 0)) (Q (x + 2 ^ 0) (y + 2 ^ 0))
def twosT : List Tree := tilesT.flatMap fun a => tilesT.flatMap fun b => tilesT.flatMap fun c => tilesT.map fun d => Tree.node a b c d
theorem twosT_len : twosT.length = 65536 := by
  unfold twosT
  rw [flat_len (c := 4096) fun a _ => by rw [flat_len (c := 256) fun b _ => by rw [flat_len (c := 16) fun c _ => by rw [List.length_map, tilesT_len], tilesT_len], tilesT_len], tilesT_len]
theorem twosT_mem (Q : Int → Int → Bool) (x y : Int) : treeOf Q 2 x y ∈ twosT :=
  List.mem_flatMap.2 ⟨_, tilesT_mem Q _ _, List.mem_flatMap.2 ⟨_, tilesT_mem Q _ _, List.mem_flatMap.2 ⟨_, tilesT_mem Q _ _, List.mem_map.2 ⟨_, tilesT_mem Q _ _, rfl⟩⟩⟩⟩
def lowL (c : Int) : List Thing := onesL ++ levV c 0 twosT
theorem lowL_len (c : Int) : (lowL c).length = 131088 := by
  unfold lowL
  rw [List.length_append, onesL_len, levV_len, twosT_len]
section
variable (b l : Int) (P : Int → Int → Bool) (lx ly : Int) (w j K : Nat)
def legF : List Thing := (List.range (j - 1)).flatMap fun m : Nat => (List.range (2 ^ (j - (m + 1)) + 1)).flatMap fun i : Nat => levV (codeR b l) ((m + 1 : Nat) : Int) (gridT (evN b l (i * 2 ^ (m + 1)) P) (m + 3) ((i * 2 ^ (m + 1) : Nat) : Int) (2 ^ (m + 2)) (lx - ((i * 2 ^ (m + 1) : Nat) : Int)) (ly - ((i * 2 ^ (m + 1) : Nat) : Int)) (w + 2 * (i * 2 ^ (m + 1))))
def legU : List Thing := (List.range K).flatMap fun d : Nat => levV (codeR b l) (j : Int) (gridT P (j + d + 2) 0 (2 ^ (j + d)) lx ly w)
def legO : List Thing := (List.range K).flatMap fun d : Nat => (gridT (evN b l (2 ^ j) P) (j + d + 1) 0 (2 ^ (j + d)) (lx - ((2 ^ j : Nat) : Int)) (ly - ((2 ^ j : Nat) : Int)) (w + 2 * 2 ^ j)).map sqOf
def legV : List Thing := legF b l P lx ly w j ++ (legU b l P lx ly w j K ++ legO b l P lx ly w j K)
end
/-- How many they are. -/
def legN (w j K : Nat) : Nat :=
  ((List.range (j - 1)).map fun m : Nat => ((List.range (2 ^ (j - (m + 1)) + 1)).map fun i : Nat => cntG (w + 2 * (i * 2 ^ (m + 1))) (m + 3) (2 ^ (m + 2)) * 2).sum).sum + (((List.range K).map fun d : Nat => cntG w (j + d + 2) (2 ^ (j + d)) * 2).sum + ((List.range K).map fun d : Nat => cntG (w + 2 * 2 ^ j) (j + d + 1) (2 ^ (j + d))).sum)
theorem legV_len (b l : Int) (P : Int → Int → Bool) (lx ly : Int) (w j K : Nat) : (legV b l P lx ly w j K).length = legN w j K := by
  unfold legV legF legU legO legN
  simp only [List.length_append, List.length_flatMap, List.length_map, levV_len, gridT_len]
section
variable {b l : Int} {P : Int → Int → Bool} {lx ly : Int} {w j K M : Nat}
theorem cast_pow (k : Nat) : ((2 ^ k : Nat) : Int) = (2 : Int) ^ k := by simp
theorem near_wins (hg : goodR b l) (h : Box2 P lx ly w) (hM : M ≤ j + K + 1) : Wins b l P j M (lowL (codeR b l) ++ legV b l P lx ly w j K) where
  one := fun Q x y => List.mem_append_left _ (List.mem_append_left _ (onesL_mem Q x y))
  full := fun m i x y hm hi hx hy => by
    match m, hm, hi, hx, hy with
    | 0, hm, hi, hx, hy =>
      have hT := twosT_mem (evN b l (i * 2 ^ 0) P) x y
      exact ⟨List.mem_append_left _ (List.mem_append_right _ (levV_sq hT)), fun _ => List.mem_append_left _ (List.mem_append_right _ (levV_note hT))⟩
    | m + 1, hm, hi, hx, hy =>
      have hB := Box2.evN hg h (i * 2 ^ (m + 1))
      have ec : ((i * 2 ^ (m + 1) : Nat) : Int) = (i : Int) * 2 ^ (m + 1) := by simp
      have hT := gridT_mem (n := m + 3) (s := 2 ^ (m + 2)) (r := ((i * 2 ^ (m + 1) : Nat) : Int)) (Nat.two_pow_pos _) hB (x := x) (y := y) (by rw [cast_pow, ec]; exact hx) (by rw [cast_pow, ec]; exact hy)
      have hi2 : i ≤ 2 ^ (j - (m + 1)) := by
        have e : 2 ^ j = 2 ^ (j - (m + 1)) * 2 ^ (m + 1) := by rw [← Nat.pow_add]; congr 1; omega
        rw [e] at hi
        exact Nat.le_of_mul_le_mul_right hi (Nat.two_pow_pos _)
      have key : ∀ z ∈ levV (codeR b l) ((m + 1 : Nat) : Int) (gridT (evN b l (i * 2 ^ (m + 1)) P) (m + 3) ((i * 2 ^ (m + 1) : Nat) : Int) (2 ^ (m + 2)) (lx - ((i * 2 ^ (m + 1) : Nat) : Int)) (ly - ((i * 2 ^ (m + 1) : Nat) : Int)) (w + 2 * (i * 2 ^ (m + 1)))), z ∈ lowL (codeR b l) ++ legV b l P lx ly w j K := fun z hz =>
        List.mem_append_right _ (List.mem_append_left _ (List.mem_flatMap.2 ⟨m, List.mem_range.2 (by omega), List.mem_flatMap.2 ⟨i, List.mem_range.2 (by omega), hz⟩⟩))
      exact ⟨key _ (levV_sq hT), fun _ => key _ (levV_note hT)⟩
  up := fun m x y hjm hm hx hy => by
    obtain ⟨d, rfl⟩ : ∃ d, m = j + d := ⟨m - j, by omega⟩
    have hT := gridT_mem (n := j + d + 2) (s := 2 ^ (j + d)) (r := 0) (Nat.two_pow_pos _) h (x := x) (y := y) (by rw [cast_pow]; simpa using hx) (by rw [cast_pow]; simpa using hy)
    have key : ∀ z ∈ levV (codeR b l) (j : Int) (gridT P (j + d + 2) 0 (2 ^ (j + d)) lx ly w), z ∈ lowL (codeR b l) ++ legV b l P lx ly w j K := fun z hz =>
      List.mem_append_right _ (List.mem_append_right _ (List.mem_append_left _ (List.mem_flatMap.2 ⟨d, List.mem_range.2 (by omega), hz⟩)))
    exact ⟨key _ (levV_sq hT), key _ (levV_note hT)⟩
  out := fun m x y hjm hm hx hy => by
    obtain ⟨d, rfl⟩ : ∃ d, m = j + d := ⟨m - j, by omega⟩
    have hB := Box2.evN hg h (2 ^ j)
    have hT := gridT_mem (n := j + d + 1) (s := 2 ^ (j + d)) (r := 0) (Nat.two_pow_pos _) hB (x := x) (y := y) (by rw [cast_pow]; simpa using hx) (by rw [cast_pow]; simpa using hy)
    exact List.mem_append_right _ (List.mem_append_right _ (List.mem_append_right _ (List.mem_flatMap.2 ⟨d, List.mem_range.2 (by omega), List.mem_map.2 ⟨_, hT, rfl⟩⟩)))
end
/-- All that the leaps of n steps ask for, but what is lowest. -/
def runV (b l : Int) (P : Int → Int → Bool) (lx ly : Int) (w n J K : Nat) : List Thing := (List.range J).flatMap fun j : Nat => if n / 2 ^ j % 2 = 1 then legV b l (evN b l (n % 2 ^ j) P) (lx - ((n % 2 ^ j : Nat) : Int)) (ly - ((n % 2 ^ j : Nat) : Int)) (w + 2 * (n % 2 ^ j)) j K else []
def runN (w n J K : Nat) : Nat := ((List.range J).map fun j : Nat => if n / 2 ^ j % 2 = 1 then legN (w + 2 * (n % 2 ^ j)) j K else 0).sum
theorem runV_len (b l : Int) (P : Int → Int → Bool) (lx ly : Int) (w n J K : Nat) : (runV b l P lx ly w n J K).length = runN w n J K := by
  unfold runV runN
  rw [List.length_flatMap]
  congr 1
  refine List.map_congr_left fun j _ => ?_
  split
  · rw [legV_len]
  · rfl
theorem run_steps {b l : Int} {P : Int → Int → Bool} {lx ly : Int} {w n J K k0 : Nat} (hg : goodR b l) (h : Box2 P lx ly w) (hn : n < 2 ^ J) (hk0 : 1 ≤ k0) (hs : ∀ m, m ≤ n → Supp (evN b l m P) k0) (hK : k0 + 2 ≤ K) (hK2 : J + 2 ≤ K) {V : List Thing} (h1 : ∀ x ∈ lowL (codeR b l), x ∈ V) (h2 : ∀ x ∈ runV b l P lx ly w n J K, x ∈ V) : StepsC b l P n 40 V := fun i hi hb k hk => by
  have hJ : i < J := by
    refine Nat.lt_of_not_le fun hle => ?_
    have h1 := Nat.pow_le_pow_right (n := 2) (by decide) hle
    rw [Nat.div_eq_of_lt (by omega)] at hb
    cases hb
  have hk2 := hk.le hk0 (hs _ (Nat.mod_le _ _))
  refine wins_leapC (M := K + 1) (wins_mono (near_wins hg (Box2.evN hg h (n % 2 ^ i)) (K := K) (by omega)) fun x hx => ?_) hk.2.1 (by unfold leapK; omega)
  rcases List.mem_append.1 hx with q | q
  · exact h1 x q
  · exact h2 x (List.mem_flatMap.2 ⟨i, List.mem_range.2 hJ, by rw [if_pos hb]; exact q⟩)
end Go.Proofs.Ytgdijlpkbbfedaa

namespace Go.Proofs.Ytgdijlpkbbfedaa
open Go.RowKit

theorem least_can {l : List (Int × Int)} {k : Nat} (h : leastK l k) : Can (setOfL l) k := by
  obtain ⟨h1, h2, h3⟩ := h
  refine ⟨h1, fun a c hp => ?_, ?_⟩
  · have hm : (a, c) ∈ l := of_decide_eq_true hp
    exact inB_root.1 (h2 _ hm)
  · by_cases e : k = 1
    · exact .inl e
    · refine .inr fun hf => h3 (k - 1) (by omega) (by omega) fun c hc => ?_
      exact hf c.1 c.2 (h2 c hc) (decide_eq_true hc)
def blockL (dx dy : Int) : List (Int × Int) := [(dx, dy), (dx + 1, dy), (dx, dy + 1), (dx + 1, dy + 1)]
theorem block_set (dx dy : Int) : setOfL (blockL dx dy) = blockP dx dy := by
  funext a c
  unfold setOfL blockL blockP
  refine decide_eq_decide.2 ?_
  simp only [List.mem_cons, List.not_mem_nil, or_false, Prod.mk.injEq]
  omega
/-- What LeapStill asks. -/
theorem still_law {S S1 S2 : ArS} {A A1 A2 : Nat → Abs} {dx dy : Int} {k κ n : Nat} {p q bad1 bad2 : Int} {L : List Thing} (hw : Within S [firstT]) (hroom : S.room = 200000) (hq : S.quota 1 = 200000) (hk : leastK (blockL dx dy) k) (hk40 : k ≤ 40)
    (hm : Made 1 (nodes (rootT (setOfL (blockL dx dy)) k)) S A 0 S1 A1 bad1) (hp : bad1 = 0 → Has S1 A1 1 p (rootT (setOfL (blockL dx dy)) k)) :
    bad1 = 0 ∧ (L.length ≤ 44 * 40 → Grew 1 (fun V => StepsC 8 12 (setOfL (blockL dx dy)) n 40 V ∧ ∀ x ∈ L, x ∈ V) S1 A1 0 S2 A2 bad2 → (∀ i, i < 40 → n / 2 ^ i % 2 = 1 → i ≤ 30) → (bad2 = 0 → Has S2 A2 1 q (rootT (evN 8 12 n (setOfL (blockL dx dy))) κ) ∧ Can (evN 8 12 n (setOfL (blockL dx dy))) κ) → bad2 = 0 ∧ p = q) := by
  have hc := least_can hk
  rw [block_set] at hm hp hc ⊢
  obtain ⟨e1, w1, _⟩ := hm.enough (firstT :: stillV dx dy) (fun i x hd => by rw [List.mem_singleton.1 (hw i x hd)]; exact List.mem_cons_self) (fun x hx => List.mem_cons_of_mem _ (still_root dx dy (by omega) x hx)) (by rw [List.length_cons, stillV_len, hroom]; decide) (by rw [List.length_cons, stillV_len, hq]; decide)
  refine ⟨e1, fun hL hg hn hh => ?_⟩
  have g1 : S1.room = 200000 := hm.st.room.trans hroom
  have g2 : S1.quota 1 = 200000 := by rw [hm.st.quota]; exact hq
  have hlen : ((firstT :: stillV dx dy ++ L).length : Int) < 200000 := by
    rw [List.length_append, List.length_cons, stillV_len]; omega
  obtain ⟨e2, _, _⟩ := hg.enough (firstT :: stillV dx dy ++ L) (fun i x hd => List.mem_append_left _ (w1 i x hd)) ⟨fun i hi hb k' hk' => by
      rw [block_evN] at hk' ⊢
      have e := hk'.uniq hc
      subst e
      obtain ⟨h1, h2⟩ := still_leapC hk'.2.1 (by omega) (hn i hi hb)
      exact ⟨fun x hx => List.mem_append_left _ (List.mem_cons_of_mem _ (h1 x hx)), (clo_mono h2 fun x hx => List.mem_append_left _ (List.mem_cons_of_mem _ hx))⟩, fun x hx => List.mem_append_right _ hx⟩ (by rw [g1]; exact hlen) (by rw [g2]; exact hlen)
  obtain ⟨h1, h2⟩ := hh e2
  rw [block_evN] at h1 h2
  have e := h2.uniq hc
  subst e
  exact ⟨e2, Den.inj (hg.st.stay 1 (by decide) _ _ (hp e1).2 (hp e1).1) h1.1⟩
set_option maxRecDepth 100000 in
set_option maxHeartbeats 6400000 in
theorem still_any (W : World) (n dx dy : Int) (hn : -9223372036854775808 ≤ n ∧ n ≤ 9223372036854775807) (hx : -9223372036854775808 ≤ dx ∧ dx ≤ 9223372036854775807) (hy : -9223372036854775808 ≤ dy ∧ dy ≤ 9223372036854775807) :
    Calls Try.prog 4 #[.int .i64 n, .int .i64 dx, .int .i64 dy] W fun e W' => e = .returned (.bool true) ∧ Below W.heap.size W W' := by
  have HN := Lib.hid hn
  have HX := Lib.hid hx
  have HY := Lib.hid hy
  clear hn hx hy
  go_enter Try.func4, Try.ntmps4
  go_wp2_with fail
  (with_reducible refine (spot_any n 1073741825 (by omega) (by omega) HN.out.1 HN.out.2 _).mono ?_)
  rintro e wq ⟨rfl, rfl⟩
  go_wp2_with fail
  (with_reducible refine (spot_any dx 1073741824 (by omega) (by omega) HX.out.1 HX.out.2 _).mono ?_)
  rintro e wq ⟨rfl, rfl⟩
  go_wp2_with fail
  (with_reducible refine (spot_any dy 1073741824 (by omega) (by omega) HY.out.1 HY.out.2 _).mono ?_)
  rintro e wq ⟨rfl, rfl⟩
  obtain ⟨m, hm, hml⟩ : ∃ m : Nat, n % 1073741825 = m ∧ m ≤ 1073741824 := ⟨(n % 1073741825).toNat, by omega, by omega⟩
  obtain ⟨x0, x1⟩ : 0 ≤ dx % 1073741824 ∧ dx % 1073741824 < 1073741824 := by omega
  obtain ⟨y0, y1⟩ : 0 ≤ dy % 1073741824 ∧ dy % 1073741824 < 1073741824 := by omega
  rw [hm]
  have HML := Lib.hid hml
  clear hm hml HN HX HY
  generalize dx % 1073741824 = x at *
  generalize dy % 1073741824 = y at *
  go_wp2_with fail
  (with_reducible refine (begunQ_any _).mono ?_)
  rintro e w2 ⟨p, R, S, A, rfl, hA, hnn, hro, hqu, hV, hb2, hfr⟩
  have HA := Lib.hid hA
  have HRO := Lib.hid hro
  have HQU := Lib.hid hqu
  have HV := Lib.hid hV
  have HB2 := Lib.hid hb2
  have HFR := Lib.hid hfr
  clear hA hnn hro hqu hV hb2 hfr
  go_wp2_with fail
  have HRD : Hid (Rd (w2.alloc (.cells #[.int .i64 x, .int .i64 y, .int .i64 (x + 1), .int .i64 y, .int .i64 x, .int .i64 (y + 1), .int .i64 (x + 1), .int .i64 (y + 1)] 37)) (w2.heap.size + 1) 2 (.slice (some ⟨w2.heap.size, 0, none⟩) 4 4) 4 (flat (blockL x y))) := fresh_cells w2 (blockL x y) 4 rfl (by unfold maxLen; omega)
  have hb3 : Below w2.heap.size w2 (w2.alloc (.cells #[.int .i64 x, .int .i64 y, .int .i64 (x + 1), .int .i64 y, .int .i64 x, .int .i64 (y + 1), .int .i64 (x + 1), .int .i64 (y + 1)] 37)) := (Below.refl _ _).alloc (Nat.le_refl _) _
  have HSZ : Hid (w2.heap.size + 1 ≤ (w2.alloc (.cells #[.int .i64 x, .int .i64 y, .int .i64 (x + 1), .int .i64 y, .int .i64 x, .int .i64 (y + 1), .int .i64 (x + 1), .int .i64 (y + 1)] 37)).heap.size) := by show _ ≤ _; rw [World.size_alloc]; exact Nat.le_refl _
  have HA3 := Lib.hid (HA.out.below hb3)
  have HB3 := Lib.hid (HB2.out.trans (hb3.mono HB2.out.size))
  have HFR3 := Lib.hid HFR.out
  have HOK : Hid (∀ c ∈ blockL x y, okC c) := fun c hc => by
    unfold blockL at hc
    simp only [List.mem_cons, List.not_mem_nil, or_false] at hc
    unfold okC okZ
    rcases hc with rfl | rfl | rfl | rfl <;> dsimp only <;> omega
  clear hb3 HB2
  generalize w2.alloc (.cells #[.int .i64 x, .int .i64 y, .int .i64 (x + 1), .int .i64 y, .int .i64 x, .int .i64 (y + 1), .int .i64 (x + 1), .int .i64 (y + 1)] 37) = w3 at *
  have HFM : Hid (Calls Try.prog 12 #[.pointer (some ⟨p, 0, none⟩), .int .i64 1, .slice (some ⟨w2.heap.size, 0, none⟩) 4 4] w3 (FromPost w3 p R S A 1 (blockL x y))) :=
    from_any w3 p R S A HA3.out 1 (by decide) (w2.heap.size + 1) 4 _ (blockL x y) HRD.out HSZ.out (by decide) HOK.out
  (with_reducible refine HFM.out.mono ?_)
  rintro e w4 ⟨k, hk, hk40, r, S1, A1, R1, bad1, rfl, hm, hh, hA1, hst⟩
  have hq1 : S.quota 1 = 200000 := HQU.out 1 (by decide)
  have hlaw := fun (κ : Nat) (q bad2 : Int) (L : List Thing) (S2 : ArS) (A2 : Nat → Abs) => still_law (S2 := S2) (A2 := A2) (κ := κ) (n := m) (q := q) (bad2 := bad2) (L := L) HV.out HRO.out hq1 hk hk40 hm hh
  obtain rfl : bad1 = 0 := (hlaw 0 0 0 [] S1 A1).1
  rw [if_pos rfl]
  have HLAW := Lib.hid (fun κ q bad2 L S2 A2 => (hlaw κ q bad2 L S2 A2).2)
  have HH := Lib.hid (hh rfl)
  have HA4 := Lib.hid hA1
  have HCAN := Lib.hid (least_can hk)
  have HST4 := Lib.hid hst
  have HK40 := Lib.hid hk40
  clear hlaw hh hA1 hk hst hm hk40 hq1 HFM
  have HSP : Hid (Calls Try.prog 13 #[.pointer (some ⟨p, 0, none⟩), .int .i64 1, .agg #[.int .i64 8, .int .i64 12], .int .i64 r, .int .i64 (m : Int)] w4 (StepsPost w4 p R1 S1 A1 1 8 12 (setOfL (blockL x y)) m)) :=
    steps_any w4 p R1 S1 A1 HA4.out 1 (by decide) 8 12 (by unfold goodR; omega) (setOfL (blockL x y)) k HCAN.out.1 (by have := HK40.out; omega) HCAN.out.2.1 m HML.out k (by have := HK40.out; omega) HCAN.out.1 (fun m' _ => by
      have h := HCAN.out.2.1
      rw [block_set] at h ⊢
      rw [block_evN]; exact h) r HH.out
  go_wp2_with fail
  (with_reducible refine HSP.out.mono ?_)
  rintro e w5 ⟨κ, L, r2, S2, A2, R2, bad2, rfl, hL, hg2, hh2, hA2, hst2⟩
  obtain ⟨rfl, rfl⟩ := HLAW.out κ r2 bad2 L S2 A2 hL hg2 (fun i hi hb => by
    have hle : 2 ^ i ≤ m := by
      refine Nat.le_of_not_lt fun hlt => ?_
      rw [Nat.div_eq_of_lt hlt] at hb
      cases hb
    refine Nat.le_of_not_lt fun hlt => ?_
    have h1 := Nat.pow_le_pow_right (n := 2) (by decide) (show 31 ≤ i from hlt)
    have h2 : 2 ^ 31 = 2147483648 := by decide
    have h3 := HML.out
    have h3 : m ≤ 1073741824 := h3
    omega) hh2
  have HB5 : Hid (Below W.heap.size W w5) := by
    obtain ⟨b1, f1⟩ := HST4.out.low HB3.out.size HFR.out
    obtain ⟨b2, _⟩ := hst2.low (Nat.le_trans HB3.out.size HST4.out.mod.size) f1
    exact (HB3.out.trans b1).trans b2
  rw [if_pos rfl]
  clear hL hg2 hh2 hA2 hst2 HSP
  go_wp2_with fail
  go_ret
  exact ⟨rfl, HB5.out⟩
end Go.Proofs.Ytgdijlpkbbfedaa

namespace Go.Proofs.Ytgdijlpkbbfedaa
open Go.RowKit

theorem near_box {l : List (Int × Int)} (h : ∀ c ∈ l, (-10 ≤ c.1 ∧ c.1 < 10) ∧ (-10 ≤ c.2 ∧ c.2 < 10)) : Box2 (setOfL l) (-10) (-10) 20 := fun a c hp => by
  have hm : (a, c) ∈ l := of_decide_eq_true hp
  have := h _ hm
  dsimp only at this
  omega
theorem near_supp {b l : Int} (hg : goodR b l) {P : Int → Int → Bool} (h : Box2 P (-10) (-10) 20) {m : Nat} (hm : m ≤ 100) : Supp (evN b l m P) 7 := by
  have e : (2 : Int) ^ 7 = 128 := by decide
  exact (Box2.evN hg h m).supp (by rw [e]; omega) (by rw [e]; omega) (by rw [e]; omega) (by rw [e]; omega)
theorem quota_runs : ∀ n, n < 60 → runN 20 n 6 9 ≤ 60000 := by decide +kernel
section
variable {S1 S2 : ArS} {A1 A2 : Nat → Abs} {b l : Int} {P : Int → Int → Bool} {n : Nat} {bad2 : Int} {L V1 : List Thing}
/-- There is room for all that few steps ask for. -/
theorem quota_run (hg : goodR b l) (h : Box2 P (-10) (-10) 20) (hn : n < 60) (hw : Within S1 V1) (hV : V1.length ≤ 3000) (hroom : S1.room = 200000) (hq : S1.quota 1 = 200000) (hL : L.length ≤ 44 * 40)
    (hgr : Grew 1 (fun V => StepsC b l P n 40 V ∧ ∀ x ∈ L, x ∈ V) S1 A1 0 S2 A2 bad2) : bad2 = 0 := by
  have hr := quota_runs n hn
  have hlen : ((V1 ++ (lowL (codeR b l) ++ (runV b l P (-10) (-10) 20 n 6 9 ++ L))).length : Int) < 200000 := by
    simp only [List.length_append, lowL_len, runV_len]; omega
  exact (hgr.enough (V1 ++ (lowL (codeR b l) ++ (runV b l P (-10) (-10) 20 n 6 9 ++ L))) (fun i x hd => List.mem_append_left _ (hw i x hd)) ⟨run_steps hg h (by omega) (k0 := 7) (by decide) (fun m hm => near_supp hg h (by omega)) (by decide) (by decide) (fun x hx => List.mem_append_right _ (List.mem_append_left _ hx)) (fun x hx => List.mem_append_right _ (List.mem_append_right _ (List.mem_append_left _ hx))), fun x hx => List.mem_append_right _ (List.mem_append_right _ (List.mem_append_right _ hx))⟩ (by rw [hroom]; exact hlen) (by rw [hq]; exact hlen)).1
end
/-- What begun leaves: but for one tenant all have nothing. -/
theorem roomy_begun {S : ArS} {A : Nat → Abs} (hr : Rel S A) (hn : ∀ t, t ≠ 63 → A t = ⟨[], []⟩) (hw : Within S [firstT]) : ∀ u, u < 64 → u ≠ 1 → ∀ x ∈ (A u).have_, x ∈ [firstT] := fun u hu _ x hx => hr.have_in hu hw x hx
end Go.Proofs.Ytgdijlpkbbfedaa

namespace Go.Proofs.Ytgdijlpkbbfedaa
open Go.RowKit

/-- A slice of our own that no arena's work touches. -/
theorem Rd.step {w w' : World} {p : Nat} {R R' : ArR} {v : Value} {n : Nat} {xs : List Value} (h : Rd w w.heap.size 2 v n xs) (hno : ∀ b, sblk v = some b → ¬ Own p R b) (hlt : ∀ b, sblk v = some b → b < w.heap.size) (hs : StepH NoX p R R' w w') :
    Rd w' w'.heap.size 2 v n xs ∧ (∀ b, sblk v = some b → ¬ Own p R' b) ∧ ∀ b, sblk v = some b → b < w'.heap.size := by
  have hsz := hs.mod.size
  obtain ⟨h1, A, cap, rfl, h2, h3, h4⟩ := h
  refine ⟨⟨h1, A, cap, rfl, h2, h3, fun hn => ?_⟩, fun b hb => hs.not (hlt b hb) (hno b hb), fun b hb => Nat.lt_of_lt_of_le (hlt b hb) hsz⟩
  obtain ⟨b, off, rfl, hb, hc⟩ := h4 hn
  refine ⟨b, off, rfl, by omega, fun j u hj => (hs.mod.cell (a := ⟨b, off + j, none⟩) hb fun ho => ?_).trans (hc j u hj)⟩
  rcases ho with ho | ho
  · exact hno b rfl ho
  · exact ho
end Go.Proofs.Ytgdijlpkbbfedaa

namespace Go.Proofs.Ytgdijlpkbbfedaa
open Go.RowKit

theorem Ar.keepX {T : Nat → Prop} {w w' : World} {p : Nat} {R : ArR} {S : ArS} {A : Nat → Abs} (h : Ar w p R S A) (hm : Mod T w w') (hT : ∀ b, Own p R b → ¬ T b) : Ar w' p R S A := ⟨h.arm.keep hm hT, h.rel, h.add⟩
/-- An arena that shares nothing with what lay there before. -/
structure One (w0 w : World) (p : Nat) (R : ArR) (S : ArS) (A : Nat → Abs) : Prop where
  ar : Ar w p R S A
  bel : Below w0.heap.size w0 w
  lo : ∀ b, Own p R b → w0.heap.size ≤ b
section
variable {w0 w w' : World} {p : Nat} {R R' : ArR} {S S' : ArS} {A A' : Nat → Abs}
theorem One.step (h : One w0 w p R S A) (ha : Ar w' p R' S' A') (hs : StepH NoX p R R' w w') : One w0 w' p R' S' A' :=
  ⟨ha, h.bel.trans (hs.low h.bel.size h.lo).1, (hs.low h.bel.size h.lo).2⟩
theorem One.below (h : One w0 w p R S A) (hb : Below w.heap.size w w') : One w0 w' p R S A := ⟨h.ar.below hb, h.bel.trans (hb.mono h.bel.size), h.lo⟩
theorem One.base {w1 : World} (h : One w0 w p R S A) (hb : Below w1.heap.size w1 w0) : Below w1.heap.size w1 w := hb.trans (h.bel.mono hb.size)
end
/-- Two arenas that share nothing, and nothing with what lay there before. -/
structure Two (w0 w : World) (p : Nat) (R : ArR) (S : ArS) (A : Nat → Abs) (q : Nat) (Q : ArR) (T : ArS) (B : Nat → Abs) : Prop where
  one : Ar w p R S A
  two : Ar w q Q T B
  dj : ∀ b, Own p R b → ¬ Own q Q b
  bel : Below w0.heap.size w0 w
  lo1 : ∀ b, Own p R b → w0.heap.size ≤ b
  lo2 : ∀ b, Own q Q b → w0.heap.size ≤ b
section
variable {w0 w w' : World} {p q : Nat} {R R' Q Q' : ArR} {S S' T T' : ArS} {A A' B B' : Nat → Abs}
theorem Two.swap (h : Two w0 w p R S A q Q T B) : Two w0 w q Q T B p R S A := ⟨h.two, h.one, fun b h1 h2 => h.dj b h2 h1, h.bel, h.lo2, h.lo1⟩
theorem Two.step (h : Two w0 w p R S A q Q T B) (ha : Ar w' p R' S' A') (hs : StepH NoX p R R' w w') : Two w0 w' p R' S' A' q Q T B :=
  ⟨ha, h.two.keepX hs.mod fun b hb ho => by
    rcases ho with ho | ho
    · exact h.dj b ho hb
    · exact ho, fun b hb ho => by
    rcases hs.own b hb with k | k
    · exact h.dj b k ho
    · have := h.two.arm.own_lt ho; omega, h.bel.trans (hs.low h.bel.size h.lo1).1, (hs.low h.bel.size h.lo1).2, h.lo2⟩
theorem Two.step2 (h : Two w0 w p R S A q Q T B) (ha : Ar w' q Q' T' B') (hs : StepH NoX q Q Q' w w') : Two w0 w' p R S A q Q' T' B' := (h.swap.step ha hs).swap
theorem Two.below (h : Two w0 w p R S A q Q T B) (hb : Below w.heap.size w w') : Two w0 w' p R S A q Q T B := ⟨h.one.below hb, h.two.below hb, h.dj, h.bel.trans (hb.mono h.bel.size), h.lo1, h.lo2⟩
theorem Two.born (h : Ar w p R S A) (hb0 : Below w0.heap.size w0 w) (hf0 : ∀ b, Own p R b → w0.heap.size ≤ b) (hb : Below w.heap.size w w') (h2 : Ar w' q Q T B) (hf : ∀ b, Own q Q b → w.heap.size ≤ b) : Two w0 w' p R S A q Q T B :=
  ⟨h.below hb, h2, fun b h1 h2 => by have := hf b h2; have := h.arm.own_lt h1; omega, hb0.trans (hb.mono hb0.size), hf0, fun b h2 => Nat.le_trans hb0.size (hf b h2)⟩
theorem Den.limit {f : Nat → Int} : ∀ {T : Tree} {id : Int}, Den { S with quota := f } id T ↔ Den S id T
  | .dead, _ => Iff.rfl
  | .alive, _ => Iff.rfl
  | .node a b c d, id => by
    simp only [Den, Den.limit (T := a), Den.limit (T := b), Den.limit (T := c), Den.limit (T := d)]
theorem DenT.limit {f : Nat → Int} {i : Nat} : ∀ {x : Thing}, DenT { S with quota := f } i x ↔ DenT S i x
  | .sq a b c d => by simp only [DenT, Den.limit]
  | .note a r j => by simp only [DenT, Den.limit]
theorem Inv.limit {f : Nat → Int} (h : Inv S) : Inv { S with quota := f } := ⟨h.room, h.zero, h.part, h.full, h.cnt, h.idx, h.own, h.keys, h.nodup, h.free, h.count, h.added⟩
/-- A limit changes nothing that is there. -/
theorem Rel.limit {f : Nat → Int} (h : Rel S A) : Rel { S with quota := f } A where
  inv := h.inv.limit
  live := h.live
  good := fun i e he hx => by
    obtain ⟨x, hd⟩ := h.good i e he hx
    exact ⟨x, DenT.limit.2 hd⟩
  own := fun t ht x => by simp only [DenT.limit]; exact h.own t ht x
  add1 := fun t ht id hid => by simp only [DenT.limit]; exact h.add1 t ht id hid
  add2 := fun t ht x hx => by simp only [DenT.limit]; exact h.add2 t ht x hx
  ok := h.ok
theorem Has.limit {t : Nat} {id : Int} {x : Tree} {f : Nat → Int} (h : Has S A t id x) : Has { S with quota := f } A t id x := ⟨Den.limit.2 h.1, h.2⟩
end
end Go.Proofs.Ytgdijlpkbbfedaa

namespace Go.Proofs.Ytgdijlpkbbfedaa
open Go.RowKit

theorem cells_okC {P : Int → Int → Bool} {k n : Nat} {x y : Int} (hs : Supp P k) (hk : k ≤ 39) : ∀ c ∈ cellsT P n x y, okC c := fun c hc => by
  have h := hs _ _ ((mem_cellsT P n x y c).1 hc).2
  have h2 := pow_mono2 hk
  have e : (2 : Int) ^ 39 = 549755813888 := by decide
  unfold okC okZ
  omega
theorem cast_one : ((1 : Nat) : Int) = 1 := rfl
end Go.Proofs.Ytgdijlpkbbfedaa
