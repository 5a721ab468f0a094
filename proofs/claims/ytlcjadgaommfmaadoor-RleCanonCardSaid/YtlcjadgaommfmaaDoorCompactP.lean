/- Lists without neighbours that are alike; rows of cells as functions. No program is named here. -/
import Derived.Test.YtlcjadgaommfmaaDoorApp
namespace Go.Proofs.YtlcjadgaommfmaaDoor
open Go.RowKit

section
variable {α : Type} [DecidableEq α]
def compStep (acc : List α) (x : α) : List α := if acc.getLast? = some x then acc else acc ++ [x]
/-- Of neighbours that are alike one stays. -/
def compactL (l : List α) : List α := l.foldl compStep []
theorem compactL_snoc (l : List α) (x : α) : compactL (l ++ [x]) = compStep (compactL l) x := by simp [compactL]
theorem compStep_last (acc : List α) (x : α) : (compStep acc x).getLast? = some x := by
  unfold compStep; split
  · assumption
  · simp
omit [DecidableEq α] in
theorem snoc_ind {p : List α → Prop} (h0 : p []) (h1 : ∀ l x, p l → p (l ++ [x])) : ∀ l, p l := by
  intro l
  have : ∀ n (l : List α), l.length = n → p l := by
    intro n
    induction n with
    | zero => intro l hl; rw [List.eq_nil_of_length_eq_zero hl]; exact h0
    | succ n ih =>
      intro l hl
      have hne : l ≠ [] := by intro e; subst e; simp at hl
      rw [← List.dropLast_concat_getLast hne]
      exact h1 _ _ (ih _ (by simp [hl]))
  exact this _ l rfl
theorem compactL_last (l : List α) : (compactL l).getLast? = l.getLast? := by
  refine snoc_ind (p := fun l => (compactL l).getLast? = l.getLast?) rfl ?_ l
  intro l x _
  rw [compactL_snoc, compStep_last]; simp
theorem compactL_mem (l : List α) (c : α) : c ∈ compactL l ↔ c ∈ l := by
  refine snoc_ind (p := fun l => c ∈ compactL l ↔ c ∈ l) (by simp [compactL]) ?_ l
  intro l x ih
  rw [compactL_snoc]; unfold compStep; split
  · rename_i h
    have hx : x ∈ compactL l := List.mem_of_getLast? h
    rw [ih]; simp only [List.mem_append, List.mem_singleton]
    constructor
    · exact fun h => .inl h
    · rintro (h | rfl)
      · exact h
      · refine (by
          have := compactL_last l
          rw [h] at this
          exact List.mem_of_getLast? this.symm)
  · simp [ih]
theorem compactL_sorted {lt : α → α → Prop} (hirr : ∀ a, ¬ lt a a) (htr : ∀ a b c, lt a b → lt b c → lt a c) (l : List α) (hs : l.Pairwise fun a b => lt a b ∨ a = b) : (compactL l).Pairwise lt := by
  revert hs
  refine snoc_ind (p := fun l => (l.Pairwise fun a b => lt a b ∨ a = b) → (compactL l).Pairwise lt) (by simp [compactL]) ?_ l
  intro l x ih hs
  rw [List.pairwise_append] at hs
  obtain ⟨h1, _, h3⟩ := hs
  rw [compactL_snoc]; unfold compStep; split
  · exact ih h1
  · rename_i hne
    rw [List.pairwise_append]
    refine ⟨ih h1, by simp, ?_⟩
    intro a ha b hb
    simp at hb; subst hb
    have ha' : a ∈ l := (compactL_mem l a).1 ha
    rcases h3 a ha' b (by simp) with h | h
    · exact h
    · subst h
      -- a is in the compact list, which is sorted, and its last is not a: then a < last ≤ a
      exfalso
      have hl : compactL l ≠ [] := by intro e; rw [e] at ha; simp at ha
      obtain ⟨la, hla⟩ : ∃ la, (compactL l).getLast? = some la := by
        rw [List.getLast?_eq_some_getLast hl]; exact ⟨_, rfl⟩
      have hd := List.dropLast_concat_getLast hl
      have e2 : (compactL l).getLast hl = la := by rw [List.getLast?_eq_some_getLast hl] at hla; injection hla
      rw [e2] at hd
      have hp := ih h1
      rw [← hd] at hp ha
      rw [List.pairwise_append] at hp
      simp only [List.mem_append, List.mem_singleton] at ha
      have hlam : la ∈ l := (compactL_mem l la).1 (List.mem_of_getLast? hla)
      rcases ha with ha | rfl
      · have h4 := hp.2.2 a ha la (by simp)
        rcases h3 la hlam a (by simp) with h5 | h5
        · have h6 := htr _ _ _ h4 h5
          exact hirr a h6
        · exact hne (by rw [hla, h5])
      · exact hne hla
end
end Go.Proofs.YtlcjadgaommfmaaDoor
