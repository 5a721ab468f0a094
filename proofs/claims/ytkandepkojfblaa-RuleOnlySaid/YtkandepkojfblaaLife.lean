/- Life, plainly: neighbours counted by increments; which cells live next; steps of moved and mirrored cells. -/
import Derived.Test.YtkandepkojfblaaKeep
import Derived.Test.YtkandepkojfblaaRule
namespace Go.Proofs.Ytkandepkojfblaa

/-- An increment: at a cell, so much. -/
abbrev Inc := (Int × Int) × Int
def hasAt (l : List Inc) (c : Int × Int) : Bool := l.any fun p => p.1 == c
def sumAt (l : List Inc) (c : Int × Int) : Int := (l.map fun p => if p.1 = c then p.2 else 0).sum
theorem hasAt_append (l m : List Inc) (c : Int × Int) : hasAt (l ++ m) c = (hasAt l c || hasAt m c) := by simp [hasAt]
theorem sumAt_append (l m : List Inc) (c : Int × Int) : sumAt (l ++ m) c = sumAt l c + sumAt m c := by simp [sumAt]
theorem hasAt_one (c' : Int × Int) (d : Int) (c : Int × Int) : hasAt [(c', d)] c = (c' == c) := by simp [hasAt]
theorem sumAt_one (c' : Int × Int) (d : Int) (c : Int × Int) : sumAt [(c', d)] c = if c' = c then d else 0 := by simp [sumAt]
def small (l : List Inc) : Prop := ∀ p ∈ l, 0 ≤ p.2 ∧ p.2 ≤ 1
theorem sumAt_bd {l : List Inc} (h : small l) (c : Int × Int) : 0 ≤ sumAt l c ∧ sumAt l c ≤ l.length := by
  induction l with
  | nil => simp [sumAt]
  | cons p r ih =>
    have h1 := ih fun q hq => h q (by simp [hq])
    have h2 := h p (by simp)
    have : sumAt (p :: r) c = (if p.1 = c then p.2 else 0) + sumAt r c := by simp [sumAt]
    rw [this, List.length_cons]
    split <;> omega

/-- The m-th of the nine increments round a cell. -/
def incAt (s : Int × Int) (m : Nat) : Inc := ((s.1 + ((m % 3 : Nat) : Int) - 1, s.2 + ((m / 3 : Nat) : Int) - 1), if m = 4 then 0 else 1)
def incC (s : Int × Int) (m : Nat) : List Inc := (List.range m).map (incAt s)
theorem incC_succ (s : Int × Int) (m : Nat) : incC s (m + 1) = incC s m ++ [incAt s m] := by simp [incC, List.range_succ]
theorem incC_zero (s : Int × Int) : incC s 0 = [] := rfl
theorem incC_length (s : Int × Int) (m : Nat) : (incC s m).length = m := by simp [incC]
def incs (t : List (Int × Int)) : List Inc := t.flatMap fun s => incC s 9
theorem incs_snoc (t : List (Int × Int)) (s : Int × Int) : incs (t ++ [s]) = incs t ++ incC s 9 := by simp [incs]
theorem incs_length (t : List (Int × Int)) : (incs t).length = 9 * t.length := by
  induction t with
  | nil => rfl
  | cons a r ih => simp only [incs, List.flatMap_cons, List.length_append, incC_length, List.length_cons] at ih ⊢; omega
theorem small_append {l m : List Inc} (h : small l) (k : small m) : small (l ++ m) := fun p hp => by
  rcases List.mem_append.1 hp with hp | hp
  · exact h p hp
  · exact k p hp
theorem small_incC (s : Int × Int) (m : Nat) : small (incC s m) := by
  intro p hp
  obtain ⟨k, _, rfl⟩ := List.mem_map.1 hp
  unfold incAt; dsimp only; split <;> omega
theorem small_incs (t : List (Int × Int)) : small (incs t) := by
  intro p hp
  obtain ⟨s, _, hs⟩ := List.mem_flatMap.1 hp
  exact small_incC s 9 p hs

/-- c lies at s or next to it. -/
def close (c s : Int × Int) : Prop := (-1 ≤ c.1 - s.1 ∧ c.1 - s.1 ≤ 1) ∧ (-1 ≤ c.2 - s.2 ∧ c.2 - s.2 ≤ 1)
instance (c s : Int × Int) : Decidable (close c s) := by unfold close; infer_instance
def adj (c s : Int × Int) : Bool := decide (close c s ∧ c ≠ s)
def cnt (t : List (Int × Int)) (c : Int × Int) : Nat := (t.filter (adj c)).length

theorem close_m {c s : Int × Int} (h : close c s) : ∃ m, m < 9 ∧ ∀ k, k < 9 → ((incAt s k).1 = c ↔ k = m) := by
  obtain ⟨⟨a, b⟩, d, e⟩ := h
  obtain ⟨x, y⟩ := c
  obtain ⟨u, v⟩ := s
  dsimp only at a b d e
  refine ⟨((y - v + 1) * 3 + (x - u + 1)).toNat, by omega, fun k hk => ?_⟩
  simp only [incAt, Prod.mk.injEq]
  omega
theorem not_close {c s : Int × Int} (h : ¬ close c s) (k : Nat) (hk : k < 9) : (incAt s k).1 ≠ c := by
  intro e
  apply h
  subst e
  simp only [incAt, close]
  omega
theorem incAt_mid {c s : Int × Int} : (incAt s 4).1 = c ↔ c = s := by
  obtain ⟨x, y⟩ := c
  obtain ⟨u, v⟩ := s
  simp only [incAt, Prod.mk.injEq]
  omega
theorem hasAt_incC (s c : Int × Int) : hasAt (incC s 9) c = decide (close c s) := by
  rw [Bool.eq_iff_iff, decide_eq_true_eq]
  simp only [hasAt, incC, List.any_map, List.any_eq_true, List.mem_range, Function.comp_def, beq_iff_eq]
  constructor
  · rintro ⟨k, hk, e⟩
    exact Classical.byContradiction fun h => not_close h k hk e
  · intro h
    obtain ⟨m, hm, hk⟩ := close_m h
    exact ⟨m, hm, (hk m hm).2 rfl⟩
theorem sum_range9 (f : Nat → Int) : ((List.range 9).map f).sum = f 0 + f 1 + f 2 + f 3 + f 4 + f 5 + f 6 + f 7 + f 8 := by
  simp [show List.range 9 = [0, 1, 2, 3, 4, 5, 6, 7, 8] from rfl]; omega
theorem sumAt_incC (s c : Int × Int) : sumAt (incC s 9) c = if adj c s = true then 1 else 0 := by
  unfold sumAt incC
  rw [List.map_map, sum_range9]
  simp only [Function.comp_def]
  by_cases h : close c s
  · obtain ⟨m, hm, hk⟩ := close_m h
    have key : ∀ k, k < 9 → (if (incAt s k).1 = c then (incAt s k).2 else 0) = if k = m then (if k = 4 then (0 : Int) else 1) else 0 := fun k hk' => by
      by_cases e : k = m
      · rw [if_pos e, if_pos ((hk k hk').2 e)]; rfl
      · rw [if_neg e, if_neg (fun h => e ((hk k hk').1 h))]
    rw [key 0 (by omega), key 1 (by omega), key 2 (by omega), key 3 (by omega), key 4 (by omega), key 5 (by omega), key 6 (by omega), key 7 (by omega), key 8 (by omega)]
    have h4 : c = s ↔ m = 4 := by rw [← incAt_mid, hk 4 (by omega)]; omega
    have hadj : adj c s = decide (m ≠ 4) := by unfold adj; rw [decide_eq_decide]; simp [h, h4]
    rw [hadj]
    rcases (by omega : m = 0 ∨ m = 1 ∨ m = 2 ∨ m = 3 ∨ m = 4 ∨ m = 5 ∨ m = 6 ∨ m = 7 ∨ m = 8) with rfl | rfl | rfl | rfl | rfl | rfl | rfl | rfl | rfl <;> rfl
  · have hadj : adj c s = false := by unfold adj; simp [h]
    rw [hadj]
    simp [not_close h 0, not_close h 1, not_close h 2, not_close h 3, not_close h 4, not_close h 5, not_close h 6, not_close h 7, not_close h 8]
theorem sumAt_incs (t : List (Int × Int)) (c : Int × Int) : sumAt (incs t) c = cnt t c := by
  induction t with
  | nil => rfl
  | cons s r ih =>
    have : incs (s :: r) = incC s 9 ++ incs r := rfl
    rw [this, sumAt_append, sumAt_incC, ih]
    unfold cnt
    rw [List.filter_cons]
    split <;> simp; omega
theorem hasAt_incs (t : List (Int × Int)) (c : Int × Int) : hasAt (incs t) c = true ↔ ∃ s ∈ t, close c s := by
  induction t with
  | nil => simp [hasAt, incs]
  | cons s r ih =>
    have : incs (s :: r) = incC s 9 ++ incs r := rfl
    rw [this, hasAt_append, hasAt_incC, Bool.or_eq_true, ih]
    simp

/-- The eight neighbours. -/
def ring (c : Int × Int) : List (Int × Int) := [(c.1 - 1, c.2 - 1), (c.1, c.2 - 1), (c.1 + 1, c.2 - 1), (c.1 - 1, c.2), (c.1 + 1, c.2), (c.1 - 1, c.2 + 1), (c.1, c.2 + 1), (c.1 + 1, c.2 + 1)]
theorem ring_mem {c s : Int × Int} (h : adj c s = true) : s ∈ ring c := by
  unfold adj close at h
  simp only [decide_eq_true_eq, ne_eq] at h
  obtain ⟨x, y⟩ := c
  obtain ⟨u, v⟩ := s
  simp only [ring, List.mem_cons, Prod.mk.injEq, List.not_mem_nil, or_false] at h ⊢
  omega
theorem cnt_le {t : List (Int × Int)} (h : t.Nodup) (c : Int × Int) : cnt t c ≤ 8 :=
  List.Nodup.length_le_of_subset (h.sublist List.filter_sublist) fun _ hs => ring_mem (List.mem_filter.1 hs).2
theorem tid_nodup {l t : List (Int × Int)} (h : Tid l t) : t.Nodup :=
  List.Pairwise.imp (R := ltC) (S := fun a b => a ≠ b) (fun {a b} hab e => ltC_irrefl a (by rw [← e] at hab; exact hab)) h.1

/-- Does a cell live next? -/
def liveC (b l : Int) (t : List (Int × Int)) (c : Int × Int) : Bool := bitB (if decide (c ∈ t) then l else b) (cnt t c)
theorem live_close {b l : Int} (hb : b % 2 = 0) {t : List (Int × Int)} {c : Int × Int} (h : liveC b l t c = true) : ∃ s ∈ t, close c s := by
  by_cases hc : c ∈ t
  · exact ⟨c, hc, by unfold close; omega⟩
  · unfold liveC at h
    rw [decide_eq_false hc] at h
    by_cases h0 : cnt t c = 0
    · rw [h0] at h; simp [bitB] at h; omega
    · unfold cnt at h0
      cases hf : t.filter (adj c) with
      | nil => rw [hf] at h0; simp at h0
      | cons s r =>
        have hs : s ∈ t.filter (adj c) := by rw [hf]; simp
        rw [List.mem_filter] at hs
        refine ⟨s, hs.1, ?_⟩
        have := hs.2
        unfold adj at this
        simp only [decide_eq_true_eq] at this
        exact this.1
end Go.Proofs.Ytkandepkojfblaa
