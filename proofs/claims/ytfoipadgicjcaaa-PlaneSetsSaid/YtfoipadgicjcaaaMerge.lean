/- Two lists in order, merged: what is in either, in both, in one alone. -/
import Derived.Test.YtfoipadgicjcaaaKeep
namespace Go.Proofs.Ytfoipadgicjcaaa

instance (a b : Int × Int) : Decidable (ltC a b) := by unfold ltC; infer_instance

def put (b : Bool) (c : Int × Int) (r : List (Int × Int)) : List (Int × Int) := if b then c :: r else r
/-- What pick gives: cells of either list that the function keeps. -/
def mergeK (f : Bool → Bool → Bool) : List (Int × Int) → List (Int × Int) → List (Int × Int)
  | [], [] => []
  | x :: xs, [] => put (f true false) x (mergeK f xs [])
  | [], y :: ys => put (f false true) y (mergeK f [] ys)
  | x :: xs, y :: ys => if ltC x y then put (f true false) x (mergeK f xs (y :: ys)) else if ltC y x then put (f false true) y (mergeK f (x :: xs) ys) else put (f true true) x (mergeK f xs ys)
  termination_by a b => a.length + b.length

theorem put_mem {b : Bool} {c d : Int × Int} {r : List (Int × Int)} : d ∈ put b c r ↔ (b = true ∧ d = c) ∨ d ∈ r := by
  unfold put; cases b <;> simp

theorem mergeK_sub (f : Bool → Bool → Bool) : ∀ (n : Nat) (a b : List (Int × Int)), a.length + b.length ≤ n → ∀ c ∈ mergeK f a b, c ∈ a ∨ c ∈ b := by
  intro n
  induction n with
  | zero =>
    intro a b h c hc
    have ha : a = [] := List.eq_nil_of_length_eq_zero (by omega)
    have hb : b = [] := List.eq_nil_of_length_eq_zero (by omega)
    subst ha hb
    simp [mergeK] at hc
  | succ n ih =>
    intro a b h c hc
    cases a with
    | nil =>
      cases b with
      | nil => simp [mergeK] at hc
      | cons y ys =>
        rw [mergeK, put_mem] at hc
        rcases hc with ⟨_, rfl⟩ | hc
        · simp
        · rcases ih [] ys (by simp at h ⊢; omega) c hc with h1 | h1
          · simp at h1
          · exact .inr (by simp [h1])
    | cons x xs =>
      cases b with
      | nil =>
        rw [mergeK, put_mem] at hc
        rcases hc with ⟨_, rfl⟩ | hc
        · simp
        · rcases ih xs [] (by simp at h ⊢; omega) c hc with h1 | h1
          · exact .inl (by simp [h1])
          · simp at h1
      | cons y ys =>
        rw [mergeK] at hc
        split at hc
        · rw [put_mem] at hc
          rcases hc with ⟨_, rfl⟩ | hc
          · simp
          · rcases ih xs (y :: ys) (by simp at h ⊢; omega) c hc with h1 | h1
            · exact .inl (by simp [h1])
            · exact .inr h1
        · split at hc
          · rw [put_mem] at hc
            rcases hc with ⟨_, rfl⟩ | hc
            · simp
            · rcases ih (x :: xs) ys (by simp at h ⊢; omega) c hc with h1 | h1
              · exact .inl h1
              · exact .inr (by simp [h1])
          · rw [put_mem] at hc
            rcases hc with ⟨_, rfl⟩ | hc
            · simp
            · rcases ih xs ys (by simp at h ⊢; omega) c hc with h1 | h1
              · exact .inl (by simp [h1])
              · exact .inr (by simp [h1])

theorem put_sorted {b : Bool} {c : Int × Int} {r : List (Int × Int)} (hr : r.Pairwise ltC) (hc : ∀ d ∈ r, ltC c d) : (put b c r).Pairwise ltC := by
  unfold put; cases b
  · simpa using hr
  · simp [hr]; exact fun x y h => hc (x, y) h

theorem mergeK_spec (f : Bool → Bool → Bool) (hff : f false false = false) : ∀ (n : Nat) (a b : List (Int × Int)), a.length + b.length ≤ n → a.Pairwise ltC → b.Pairwise ltC →
    (mergeK f a b).Pairwise ltC ∧ ∀ c, c ∈ mergeK f a b ↔ f (decide (c ∈ a)) (decide (c ∈ b)) = true := by
  intro n
  induction n with
  | zero =>
    intro a b h _ _
    have ha : a = [] := List.eq_nil_of_length_eq_zero (by omega)
    have hb : b = [] := List.eq_nil_of_length_eq_zero (by omega)
    subst ha hb
    simp [mergeK, hff]
  | succ n ih =>
    intro a b h hpa hpb
    cases a with
    | nil =>
      cases b with
      | nil => simp [mergeK, hff]
      | cons y ys =>
        rw [List.pairwise_cons] at hpb
        obtain ⟨i1, i2⟩ := ih [] ys (by simp at h ⊢; omega) hpa hpb.2
        rw [mergeK]
        refine ⟨put_sorted i1 fun d hd => ?_, fun c => ?_⟩
        · rcases mergeK_sub f _ _ _ (Nat.le_refl _) d hd with h1 | h1
          · simp at h1
          · exact hpb.1 d h1
        · rw [put_mem, i2]
          by_cases hcy : c = y
          · subst hcy
            have hn : c ∉ ys := fun hm => ltC_irrefl c (hpb.1 c hm)
            simp [hn, hff]
          · simp [hcy]
    | cons x xs =>
      rw [List.pairwise_cons] at hpa
      cases b with
      | nil =>
        obtain ⟨i1, i2⟩ := ih xs [] (by simp at h ⊢; omega) hpa.2 hpb
        rw [mergeK]
        refine ⟨put_sorted i1 fun d hd => ?_, fun c => ?_⟩
        · rcases mergeK_sub f _ _ _ (Nat.le_refl _) d hd with h1 | h1
          · exact hpa.1 d h1
          · simp at h1
        · rw [put_mem, i2]
          by_cases hcx : c = x
          · subst hcx
            have hn : c ∉ xs := fun hm => ltC_irrefl c (hpa.1 c hm)
            simp [hn, hff]
          · simp [hcx]
      | cons y ys =>
        rw [mergeK]
        have hpb' := hpb
        rw [List.pairwise_cons] at hpb
        by_cases hxy : ltC x y
        · rw [if_pos hxy]
          obtain ⟨i1, i2⟩ := ih xs (y :: ys) (by simp at h ⊢; omega) hpa.2 hpb'
          have hxb : ∀ d ∈ y :: ys, ltC x d := fun d hd => by
            rw [List.mem_cons] at hd
            rcases hd with rfl | hd
            · exact hxy
            · exact ltC_trans _ _ _ hxy (hpb.1 d hd)
          refine ⟨put_sorted i1 fun d hd => ?_, fun c => ?_⟩
          · rcases mergeK_sub f _ _ _ (Nat.le_refl _) d hd with h1 | h1
            · exact hpa.1 d h1
            · exact hxb d h1
          · rw [put_mem, i2]
            by_cases hcx : c = x
            · subst hcx
              have hn : c ∉ xs := fun hm => ltC_irrefl c (hpa.1 c hm)
              have hn2 : c ∉ y :: ys := fun hm => ltC_irrefl c (hxb c hm)
              rw [decide_eq_false hn, decide_eq_false hn2, hff]; simp
            · simp only [hcx, and_false, false_or, List.mem_cons]
        · rw [if_neg hxy]
          by_cases hyx : ltC y x
          · rw [if_pos hyx]
            obtain ⟨i1, i2⟩ := ih (x :: xs) ys (by simp at h ⊢; omega) (List.pairwise_cons.2 hpa) hpb.2
            have hyb : ∀ d ∈ x :: xs, ltC y d := fun d hd => by
              rw [List.mem_cons] at hd
              rcases hd with rfl | hd
              · exact hyx
              · exact ltC_trans _ _ _ hyx (hpa.1 d hd)
            refine ⟨put_sorted i1 fun d hd => ?_, fun c => ?_⟩
            · rcases mergeK_sub f _ _ _ (Nat.le_refl _) d hd with h1 | h1
              · exact hyb d h1
              · exact hpb.1 d h1
            · rw [put_mem, i2]
              by_cases hcy : c = y
              · subst hcy
                have hn : c ∉ ys := fun hm => ltC_irrefl c (hpb.1 c hm)
                have hn2 : c ∉ x :: xs := fun hm => ltC_irrefl c (hyb c hm)
                rw [decide_eq_false hn, decide_eq_false hn2, hff]; simp
              · simp only [hcy, and_false, false_or, List.mem_cons]
          · rw [if_neg hyx]
            have hE : x = y := by
              rcases ltC_tri x y with e | e | e
              · exact absurd e hxy
              · exact e
              · exact absurd e hyx
            subst hE
            obtain ⟨i1, i2⟩ := ih xs ys (by simp at h ⊢; omega) hpa.2 hpb.2
            refine ⟨put_sorted i1 fun d hd => ?_, fun c => ?_⟩
            · rcases mergeK_sub f _ _ _ (Nat.le_refl _) d hd with h1 | h1
              · exact hpa.1 d h1
              · exact hpb.1 d h1
            · rw [put_mem, i2]
              by_cases hcx : c = x
              · subst hcx
                have hn : c ∉ xs := fun hm => ltC_irrefl c (hpa.1 c hm)
                have hn2 : c ∉ ys := fun hm => ltC_irrefl c (hpb.1 c hm)
                rw [decide_eq_false hn, decide_eq_false hn2, hff]; simp
              · simp only [hcx, and_false, false_or, List.mem_cons]

theorem mergeK_length (f : Bool → Bool → Bool) (a b : List (Int × Int)) (ha : a.Pairwise ltC) (hb : b.Pairwise ltC) (hff : f false false = false) : (mergeK f a b).length ≤ a.length + b.length := by
  obtain ⟨h1, _⟩ := mergeK_spec f hff _ a b (Nat.le_refl _) ha hb
  have hn : (mergeK f a b).Nodup := h1.imp (S := fun a b => a ≠ b) fun {a b} h e => ltC_irrefl a (by rw [← e] at h; exact h)
  have := nodup_le (l := a ++ b) hn fun c hc => by
    rw [List.mem_append]; exact mergeK_sub f _ a b (Nat.le_refl _) c hc
  rwa [List.length_append] at this
end Go.Proofs.Ytfoipadgicjcaaa
