/- rle: the steps of the writing loop, in plain words. No program is named here. -/
import Derived.Test.YtlcjadgaommfmaaDoorRlC
namespace Go.Proofs.YtlcjadgaommfmaaDoor
open Go.Lib

theorem runN_le : ∀ (c : Int × Int) (r : List (Int × Int)), runN c r ≤ r.length
  | _, [] => Nat.le_refl _
  | c, d :: r => by
    rw [runN]
    split
    · have := runN_le d r; rw [List.length_cons]; omega
    · exact Nat.zero_le _
/-- At the i-th cell of a run: it goes on exactly where the next cell is the next one of the row. -/
theorem runN_at : ∀ (i : Nat) (c : Int × Int) (r : List (Int × Int)), i ≤ runN c r → i < r.length → ((r[i]!).2 = c.2 ∧ (r[i]!).1 = c.1 + ((i : Int) + 1) ↔ i < runN c r)
  | 0, c, [], _, h => by simp at h
  | 0, c, d :: r, _, _ => by
    rw [runN]
    have e : (d :: r)[0]! = d := rfl
    rw [e]
    by_cases h : d = (c.1 + 1, c.2)
    · rw [if_pos h, h]; simp
    · rw [if_neg h]
      constructor
      · rintro ⟨h1, h2⟩
        have : d = (c.1 + 1, c.2) := by
          obtain ⟨d1, d2⟩ := d
          dsimp only at h1 h2
          rw [h1, h2]; rfl
        exact absurd this h
      · intro h; omega
  | i + 1, c, [], _, h => by simp at h
  | i + 1, c, d :: r, hi, hl => by
    rw [runN] at hi ⊢
    have e : (d :: r)[i + 1]! = r[i]! := by simp
    rw [e]
    by_cases h : d = (c.1 + 1, c.2)
    · rw [if_pos h] at hi ⊢
      have ih := runN_at i d r (by omega) (by simpa using hl)
      subst h
      dsimp only at ih
      constructor
      · rintro ⟨h1, h2⟩
        have := ih.1 ⟨h1, by rw [h2]; omega⟩
        omega
      · intro h3
        obtain ⟨h1, h2⟩ := ih.2 (by omega)
        exact ⟨h1, by rw [h2]; omega⟩
    · rw [if_neg h] at hi; omega
theorem layP_len {st : List UInt8 × Nat} {p : Nat × UInt8} (hp : p.1 < 10000000000000) (hc : st.2 ≤ 70) : (layP st p).1.length ≤ st.1.length + 15 ∧ (layP st p).2 ≤ 70 := by
  have := piece_len hp
  unfold layP
  split
  · exact ⟨by omega, hc⟩
  · split
    · dsimp only
      rw [List.length_append, List.length_cons]
      omega
    · dsimp only
      rw [List.length_append]
      omega
/-- What is written from a state on. -/
def encS (f : Nat) (X0 : Int) (l : List (Int × Int)) (x y : Int) (st : List UInt8 × Nat) : List UInt8 × Nat := (piecesF f X0 l x y ++ [(1, 33)]).foldl layP st
theorem encS_nil (f : Nat) (X0 x y : Int) (st : List UInt8 × Nat) : encS f X0 [] x y st = layP st (1, 33) := by
  unfold encS
  cases f <;> rfl
theorem encS_up (f : Nat) (X0 : Int) (c : Int × Int) (r : List (Int × Int)) (x y : Int) (st : List UInt8 × Nat) (h : y < c.2) :
    encS (f + 1) X0 (c :: r) x y st = encS f X0 (r.drop (runN c r)) (c.1 + (runN c r + 1 : Nat)) c.2 (layP (layP (layP st ((c.2 - y).toNat, 36)) ((c.1 - X0).toNat, 98)) (runN c r + 1, 111)) := by
  unfold encS
  rw [piecesF, if_pos h, if_pos h]
  rfl
theorem encS_on (f : Nat) (X0 : Int) (c : Int × Int) (r : List (Int × Int)) (x y : Int) (st : List UInt8 × Nat) (h : ¬ y < c.2) :
    encS (f + 1) X0 (c :: r) x y st = encS f X0 (r.drop (runN c r)) (c.1 + (runN c r + 1 : Nat)) c.2 (layP (layP st ((c.1 - x).toNat, 98)) (runN c r + 1, 111)) := by
  unfold encS
  rw [piecesF, if_neg h, if_neg h]
  rfl
def upS (st : List UInt8 × Nat) (cy y : Int) : List UInt8 × Nat := if y < cy then layP st ((cy - y).toNat, 36) else st
def upX (X0 x cy y : Int) : Int := if y < cy then X0 else x
theorem upS_len {st : List UInt8 × Nat} {cy y : Int} (hp : (cy - y).toNat < 10000000000000) (hc : st.2 ≤ 70) : (upS st cy y).1.length ≤ st.1.length + 15 ∧ (upS st cy y).2 ≤ 70 := by
  unfold upS
  split
  · exact layP_len hp hc
  · exact ⟨by omega, hc⟩
theorem encS_step (f : Nat) (X0 : Int) (c : Int × Int) (r : List (Int × Int)) (x y : Int) (st : List UInt8 × Nat) :
    encS (f + 1) X0 (c :: r) x y st = encS f X0 (r.drop (runN c r)) (c.1 + (runN c r + 1 : Nat)) c.2 (layP (layP (upS st c.2 y) ((c.1 - upX X0 x c.2 y).toNat, 98)) (runN c r + 1, 111)) := by
  unfold upS upX
  by_cases h : y < c.2
  · rw [encS_up f X0 c r x y st h, if_pos h, if_pos h]
  · rw [encS_on f X0 c r x y st h, if_neg h, if_neg h]
theorem encS_text (l : List (Int × Int)) (X0 Y0 : Int) (W H : Nat) (t : List UInt8) : encT l X0 Y0 W H t = (encS l.length X0 l X0 Y0 (headT W H t ++ [10], 0)).1 ++ [10] := by
  unfold encS encT
  rw [lay_body]
  simp
theorem headT_len {W H : Nat} {t : List UInt8} (hW : W < 10000000000000) (hH : H < 10000000000000) (ht : t.length ≤ 24) : (headT W H t ++ [10]).length ≤ 100 := by
  have h1 := decD_len 12 W (by omega)
  have h2 := decD_len 12 H (by omega)
  unfold headT
  simp only [List.length_append, List.length_cons, List.length_nil]
  omega
theorem get_drop (t : List (Int × Int)) (k i : Nat) : (t.drop k)[i]! = t[k + i]! := by
  rw [List.getElem!_eq_getElem?_getD, List.getElem!_eq_getElem?_getD, List.getElem?_drop]
theorem drop_at {t : List (Int × Int)} {k : Nat} (hk : k < t.length) : t.drop k = t[k]! :: t.drop (k + 1) := by
  rw [List.drop_eq_getElem_cons hk, List.getElem!_eq_getElem?_getD, List.getElem?_eq_getElem hk]; rfl
theorem enc_next {t : List (Int × Int)} {k : Nat} (hs : t.Pairwise ltR) (hk : k < t.length) :
    ∃ q, q = runN t[k]! (t.drop (k + 1)) ∧ t.drop k = t[k]! :: t.drop (k + 1) ∧ k + 1 + q ≤ t.length ∧ (t.drop (k + 1)).drop q = t.drop (k + 1 + q) ∧
      (∀ j, 1 ≤ j → j ≤ q + 1 → k + j < t.length → ((t[k + j]!).2 = (t[k]!).2 ∧ (t[k + j]!).1 = (t[k]!).1 + (j : Int) ↔ j < q + 1)) ∧
      (∀ d, t[k + 1 + q]? = some d → (t[k]!).2 < d.2 ∨ (t[k]!).2 = d.2 ∧ (t[k]!).1 + ((q + 1 : Nat) : Int) ≤ d.1) := by
  refine ⟨_, rfl, drop_at hk, ?_, by rw [List.drop_drop], ?_, ?_⟩
  · have := runN_le t[k]! (t.drop (k + 1))
    rw [List.length_drop] at this; omega
  · intro j h1 h2 h3
    obtain ⟨i, rfl⟩ : ∃ i, j = i + 1 := ⟨j - 1, by omega⟩
    have h := runN_at i t[k]! (t.drop (k + 1)) (by omega) (by rw [List.length_drop]; omega)
    rw [get_drop, show k + 1 + i = k + (i + 1) by omega] at h
    rw [show ((i + 1 : Nat) : Int) = (i : Int) + 1 by omega]
    exact h.trans ⟨fun h => by omega, fun h => by omega⟩
  · intro d hd
    obtain ⟨h1, h2⟩ := run_split t[k]! (t.drop (k + 1))
    generalize hq : runN t[k]! (t.drop (k + 1)) = q at *
    have hp : (t.drop k).Pairwise ltR := hs.sublist (List.drop_sublist k t)
    rw [drop_at hk, h1, List.pairwise_append] at hp
    have hm : d ∈ (t.drop (k + 1)).drop q := by
      rw [List.drop_drop, List.mem_iff_getElem?]
      exact ⟨0, by rw [List.getElem?_drop]; simpa using hd⟩
    have := hp.2.2 _ (rowC_last (t[k]!).1 (t[k]!).2 q) d hm
    unfold ltR at this
    dsimp only at this
    omega
end Go.Proofs.YtlcjadgaommfmaaDoor
