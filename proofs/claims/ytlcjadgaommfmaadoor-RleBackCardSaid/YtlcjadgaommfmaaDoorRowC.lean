/- Rows of cells (pairs of integers) as functions, in an own block. No program is named here. -/
import Derived.Test.YtlcjadgaommfmaaDoorApp
namespace Go.Proofs.YtlcjadgaommfmaaDoor
open Go.RowKit

/-- n cells from place off of block b on, the block of type t: F. -/
def RowC (w : World) (t b off n : Nat) (F : Nat → Int × Int) : Prop :=
  ∃ cs, Blk w b t cs ∧ off + n * 2 ≤ cs.size ∧ ∀ i, i < n → cs[off + i * 2]? = some (.int .i64 (F i).1) ∧ cs[off + i * 2 + 1]? = some (.int .i64 (F i).2)

def flat (l : List (Int × Int)) : List Value := l.flatMap fun c => [.int .i64 c.1, .int .i64 c.2]
theorem flat_length (l : List (Int × Int)) : (flat l).length = l.length * 2 := by
  induction l with
  | nil => rfl
  | cons a r ih => simp only [flat, List.flatMap_cons, List.length_append, List.length_cons, List.length_nil] at ih ⊢; omega
theorem flat_append (l m : List (Int × Int)) : flat (l ++ m) = flat l ++ flat m := by simp [flat]
theorem flat_get (l : List (Int × Int)) : ∀ (i : Nat) (c : Int × Int), l[i]? = some c → (flat l)[i * 2]? = some (.int .i64 c.1) ∧ (flat l)[i * 2 + 1]? = some (.int .i64 c.2) := by
  induction l with
  | nil => intro i c h; simp at h
  | cons a r ih =>
    intro i c h
    match i, h with
    | 0, h => simp at h; subst h; simp [flat]
    | i + 1, h =>
      have := ih i c (by simpa using h)
      rw [show flat (a :: r) = [.int .i64 a.1, .int .i64 a.2] ++ flat r from rfl]
      rw [show (i + 1) * 2 = i * 2 + 2 by omega, List.getElem?_append_right (by simp), List.getElem?_append_right (by simp)]
      simpa using this
theorem flat_mem {l : List (Int × Int)} {u : Value} (h : u ∈ flat l) : ∃ n, u = .int .i64 n := by
  simp only [flat, List.mem_flatMap, List.mem_cons, List.not_mem_nil, or_false] at h
  obtain ⟨c, _, h | h⟩ := h
  · exact ⟨_, h⟩
  · exact ⟨_, h⟩
theorem flat_one {l : List (Int × Int)} : ∀ u ∈ flat l, u.oneCell' = true := fun u hu => by obtain ⟨n, rfl⟩ := flat_mem hu; rfl

section
variable {w w' : World} {t b off n : Nat} {F : Nat → Int × Int}
theorem RowC.cell1 (h : RowC w t b off n F) {i : Nat} (hi : i < n) : w.cell? ⟨b, off + i * 2, none⟩ = some (.int .i64 (F i).1) := by
  obtain ⟨cs, h1, _, h3⟩ := h; rw [h1.cell]; exact (h3 i hi).1
theorem RowC.cell2 (h : RowC w t b off n F) {i : Nat} (hi : i < n) : w.cell? ⟨b, off + i * 2 + 1, none⟩ = some (.int .i64 (F i).2) := by
  obtain ⟨cs, h1, _, h3⟩ := h; rw [h1.cell]; exact (h3 i hi).2
theorem RowC.frozen (h : RowC w t b off n F) (j : Nat) : w.frozen? ⟨b, j, none⟩ = false := by
  obtain ⟨cs, h1, _, _⟩ := h; exact h1.frozen j
theorem RowC.lt (h : RowC w t b off n F) : b < w.heap.size := by obtain ⟨cs, h1, _, _⟩ := h; exact h1.lt
theorem RowC.of_block (h : RowC w t b off n F) (e : w'.heap[b]? = w.heap[b]?) : RowC w' t b off n F := by
  obtain ⟨cs, h1, h2, h3⟩ := h; exact ⟨cs, e.trans h1, h2, h3⟩
theorem RowC.congr {G : Nat → Int × Int} (h : RowC w t b off n F) (e : ∀ i, i < n → F i = G i) : RowC w t b off n G := by
  obtain ⟨cs, h1, h2, h3⟩ := h; exact ⟨cs, h1, h2, fun i hi => by rw [← e i hi]; exact h3 i hi⟩
theorem RowC.drewN (h : RowC w t b off n F) (k : Nat) : RowC (w.drewN k) t b off n F := h
theorem RowC.alloc (h : RowC w t b off n F) (o : Obj) : RowC (w.alloc o) t b off n F := h.of_block (Below.heap_alloc w o b h.lt)
theorem RowC.far (h : RowC w t b off n F) {p : Addr} (hp : b ≠ p.block) (u : Value) : RowC (w.setCell p u) t b off n F := h.of_block (Below.heap_setCell w p u b hp)
theorem RowC.set (h : RowC w t b off n F) {i : Nat} (_hi : i < n) (x y : Int) :
    RowC ((w.setCell ⟨b, off + i * 2, none⟩ (.int .i64 x)).setCell ⟨b, off + i * 2 + 1, none⟩ (.int .i64 y)) t b off n (fun j => if j = i then (x, y) else F j) := by
  obtain ⟨cs, h1, h2, h3⟩ := h
  refine ⟨_, (h1.set _ _).set _ _, by simpa using h2, fun j hj => ?_⟩
  by_cases e : j = i
  · subst e
    simp only [if_true]
    constructor
    · rw [Array.getElem?_setIfInBounds_ne (by omega), Array.getElem?_setIfInBounds_self_of_lt (by omega)]
    · rw [Array.getElem?_setIfInBounds_self_of_lt (by simp; omega)]
  · simp only [if_neg e]
    rw [Array.getElem?_setIfInBounds_ne (by omega), Array.getElem?_setIfInBounds_ne (by omega), Array.getElem?_setIfInBounds_ne (by omega), Array.getElem?_setIfInBounds_ne (by omega)]
    exact h3 j hj
/-- As a slice. -/
theorem RowC.sl (h : RowC w t b off n F) {m cap : Nat} (hm : m ≤ cap) (hc : cap ≤ n) (hM : cap ≤ maxLen) : Sl w t 2 (.slice (some ⟨b, off, none⟩) m cap) m (flat ((List.range m).map F)) := by
  obtain ⟨cs, h1, h2, h3⟩ := h
  have hlen : (flat ((List.range m).map F)).length = m * 2 := by rw [flat_length]; simp
  refine ⟨hlen, _, _, rfl, hm, hM, (fun h => nomatch h), fun a ha => ?_⟩
  injection ha with ha; subst ha
  refine ⟨cs, rfl, h1, by show off + cap * 2 ≤ _; omega, ?_⟩
  apply List.ext_getElem?
  intro j
  show ((cs.toList.drop off).take (m * 2))[j]? = _
  by_cases hj : j < m * 2
  · rw [List.getElem?_take_of_lt hj, List.getElem?_drop]
    have hq : ((List.range m).map F)[j / 2]? = some (F (j / 2)) := by
      rw [List.getElem?_map, List.getElem?_range (by omega)]; rfl
    obtain ⟨g1, g2⟩ := flat_get _ (j / 2) _ hq
    obtain ⟨k1, k2⟩ := h3 (j / 2) (by omega)
    rcases (show j = j / 2 * 2 ∨ j = j / 2 * 2 + 1 by omega) with e | e
    · rw [e, g1]; simpa using k1
    · rw [e, g2]; simpa [Nat.add_assoc] using k2
  · rw [List.getElem?_eq_none (by simp; omega), List.getElem?_eq_none (by omega)]
/-- And back. -/
theorem Sl.rowC {m cap : Nat} {l : List (Int × Int)} (h : Sl w t 2 (.slice (some ⟨b, off, none⟩) m cap) m (flat l)) : RowC w t b off m (fun i => l[i]!) ∧ l.length = m := by
  obtain ⟨h1, A, cap', e, h2, h3, h4, h5⟩ := h
  injection e with e1 e2 e3
  subst e1 e3
  obtain ⟨cs, c1, c2, c3, c4⟩ := h5 _ rfl
  have hl : l.length = m := by rw [flat_length] at h1; omega
  have c3' : off + cap * 2 ≤ cs.size := c3
  refine ⟨⟨cs, c2, by omega, fun i hi => ?_⟩, hl⟩
  have hq : l[i]? = some l[i]! := by rw [List.getElem!_eq_getElem?_getD, List.getElem?_eq_getElem (by omega)]; rfl
  obtain ⟨g1, g2⟩ := flat_get l i _ hq
  rw [← c4] at g1 g2
  rw [List.getElem?_take_of_lt (by omega), List.getElem?_drop] at g1 g2
  exact ⟨by simpa using g1, by simpa [Nat.add_assoc] using g2⟩
end

/-- What can be read as cells: a list of pairs. -/
theorem Rd.pairs {w : World} {B n : Nat} {v : Value} {l : List (Int × Int)} (h : Rd w B 2 v n (flat l)) : l.length = n ∧
    (0 < n → ∃ b off cap, v = .slice (some ⟨b, off, none⟩) n cap ∧ n ≤ cap ∧ cap ≤ maxLen ∧ b < B ∧ ∀ i, i < n → w.cell? ⟨b, off + i * 2, none⟩ = some (.int .i64 (l[i]!).1) ∧ w.cell? ⟨b, off + i * 2 + 1, none⟩ = some (.int .i64 (l[i]!).2)) := by
  have hl : l.length = n := by have := h.1; rw [flat_length] at this; omega
  refine ⟨hl, fun hn => ?_⟩
  obtain ⟨b, off, cap, e, h1, h2, h3, h4⟩ := h.at hn
  refine ⟨b, off, cap, e, h1, h2, h3, fun i hi => ?_⟩
  have hq : l[i]? = some l[i]! := by rw [List.getElem!_eq_getElem?_getD, List.getElem?_eq_getElem (by omega)]; rfl
  obtain ⟨g1, g2⟩ := flat_get l i _ hq
  exact ⟨h4 _ _ g1, by rw [Nat.add_assoc]; exact h4 _ _ g2⟩
theorem flat_drop (l : List (Int × Int)) : ∀ k, flat (l.drop k) = (flat l).drop (k * 2) := by
  induction l with
  | nil => intro k; simp [flat]
  | cons a r ih =>
    intro k
    cases k with
    | zero => simp
    | succ k =>
      rw [List.drop_succ_cons, ih k]
      show _ = (.int .i64 a.1 :: .int .i64 a.2 :: flat r).drop _
      rw [show (k + 1) * 2 = k * 2 + 1 + 1 by omega, List.drop_succ_cons, List.drop_succ_cons]
theorem flat_take (l : List (Int × Int)) : ∀ k, flat (l.take k) = (flat l).take (k * 2) := by
  induction l with
  | nil => intro k; simp [flat]
  | cons a r ih =>
    intro k
    cases k with
    | zero => simp [flat]
    | succ k =>
      rw [List.take_succ_cons]
      show .int .i64 a.1 :: .int .i64 a.2 :: flat (r.take k) = (.int .i64 a.1 :: .int .i64 a.2 :: flat r).take _
      rw [ih k, show (k + 1) * 2 = k * 2 + 1 + 1 by omega, List.take_succ_cons, List.take_succ_cons]
theorem Rd.cut {w : World} {B b off n cap k : Nat} {l : List (Int × Int)} (h : Rd w B 2 (.slice (some ⟨b, off, none⟩) n cap) n (flat l)) (hk : k ≤ n) :
    Rd w B 2 (.slice (some ⟨b, off + k * 2, none⟩) (n - k) (cap - k)) (n - k) (flat (l.drop k)) := by
  obtain ⟨h1, A, cap', e, h2, h3, h4⟩ := h
  injection e with e1 _ e3
  subst e1 e3
  rw [flat_drop]
  refine ⟨by rw [List.length_drop, h1]; omega, _, _, rfl, by omega, by omega, fun hn => ?_⟩
  obtain ⟨b', off', e4, hb, hc⟩ := h4 (by omega)
  injection e4 with e4
  injection e4 with e5 e6 _
  subst e5 e6
  refine ⟨_, _, rfl, hb, fun j u hj => ?_⟩
  rw [List.getElem?_drop] at hj
  have := hc _ u hj
  rwa [← Nat.add_assoc] at this
theorem Rd.upto {w : World} {B n cap k : Nat} {A : Option Addr} {l : List (Int × Int)} (h : Rd w B 2 (.slice A n cap) n (flat l)) (hk : k ≤ n) :
    Rd w B 2 (.slice A k cap) k (flat (l.take k)) := by
  obtain ⟨h1, A', cap', e, h2, h3, h4⟩ := h
  injection e with e1 _ e3
  subst e1 e3
  rw [flat_take]
  refine ⟨by rw [List.length_take, h1]; omega, _, _, rfl, by omega, h3, fun hn => ?_⟩
  obtain ⟨b', off', e4, hb, hc⟩ := h4 (by omega)
  refine ⟨_, _, e4, hb, fun j u hj => ?_⟩
  rw [List.getElem?_take] at hj
  split at hj
  · exact hc _ u hj
  · cases hj
theorem range_map_get (l : List (Int × Int)) : (List.range l.length).map (fun i => l[i]!) = l := by
  apply List.ext_getElem
  · simp
  · intro i h1 h2; simp [List.getElem!_eq_getElem?_getD, List.getElem?_eq_getElem h2]
end Go.Proofs.YtlcjadgaommfmaaDoor
