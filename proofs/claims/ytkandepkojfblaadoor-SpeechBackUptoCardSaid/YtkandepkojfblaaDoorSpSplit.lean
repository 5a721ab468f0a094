/- speech: what the library's Split, Cut and TrimPrefix say, in plain words. -/
import Derived.Test.YtkandepkojfblaaDoorSpRead
import Derived.Test.YtkandepkojfblaaDoorStr
import Derived.Lib.SplitLaws
import Derived.Lib.Strings
namespace Go.Proofs.YtkandepkojfblaaDoor

theorem index_byte (d : UInt8) : ∀ (s : List UInt8), (Lib.index s [d] = -1 ∧ d ∉ s) ∨ ∃ p r, s = p ++ d :: r ∧ d ∉ p ∧ Lib.index s [d] = p.length
  | [] => .inl ⟨rfl, by simp⟩
  | c :: s => by
    rw [Lib.index]
    by_cases hc : c = d
    · subst hc
      exact .inr ⟨[], s, rfl, by simp, by simp⟩
    · have hpre : ([d] : List UInt8).isPrefixOf (c :: s) = false := by simp [List.isPrefixOf]; exact fun e => hc e.symm
      rw [hpre]
      rcases index_byte d s with ⟨h1, h2⟩ | ⟨p, r, rfl, h2, h3⟩
      · exact .inl ⟨by rw [h1]; rfl, by simp [h2]; exact fun e => hc e.symm⟩
      · refine .inr ⟨c :: p, r, rfl, by simp [h2]; exact fun e => hc e.symm, ?_⟩
        rw [h3]
        have : ((p.length : Int) == -1) = false := by simp
        simp [this]
theorem splitB_none : ∀ (s : List UInt8), (32 : UInt8) ∉ s → splitB s = [s]
  | [], _ => rfl
  | c :: s, h => by
    have hc : c ≠ 32 := fun e => h (by simp [e])
    rw [splitB, if_neg hc, splitB_none s fun hm => h (by simp [hm])]
theorem splitB_at (r : List UInt8) : ∀ (p : List UInt8), (32 : UInt8) ∉ p → splitB (p ++ 32 :: r) = p :: splitB r
  | [], _ => by rw [List.nil_append, splitB, if_pos rfl]
  | c :: p, h => by
    have hc : c ≠ 32 := fun e => h (by simp [e])
    rw [List.cons_append, splitB, if_neg hc, splitB_at r p fun hm => h (by simp [hm])]
theorem split_blanks : ∀ (k : Nat) (s : List UInt8), Lib.countB (str s) (str [32]) = k → Lib.splitB (str [32]) 0 k (str s) = (splitB s).map str := by
  intro k
  induction k with
  | zero =>
    intro s h
    rcases index_byte 32 s with ⟨h1, h2⟩ | ⟨p, r, rfl, h2, h3⟩
    · rw [Lib.splitB_zero, splitB_none s h2]; rfl
    · exfalso
      have hi : Lib.indexB (str (p ++ 32 :: r)) (str [32]) = (p.length : Nat) := by unfold Lib.indexB str; simpa using h3
      have := Lib.countB_hit _ _ _ (by simp [str_size]) hi
      omega
  | succ k ih =>
    intro s h
    rcases index_byte 32 s with ⟨h1, h2⟩ | ⟨p, r, rfl, h2, h3⟩
    · have hi : Lib.indexB (str s) (str [32]) = -1 := by unfold Lib.indexB str; simpa using h1
      have := Lib.countB_miss _ _ hi
      omega
    · have hi : Lib.indexB (str (p ++ 32 :: r)) (str [32]) = (p.length : Nat) := by unfold Lib.indexB str; simpa using h3
      have hc := Lib.countB_hit _ _ _ (by simp [str_size]) hi
      have e1 : (str (p ++ 32 :: r)).extract 0 (p.length + 0) = str p := by
        unfold str; rw [ByteArray.extract_mk]; simp
      have e2 : (str (p ++ 32 :: r)).extract (p.length + (str [32]).size) (str (p ++ 32 :: r)).size = str r := by
        rw [str_size, str_size]; unfold str; rw [ByteArray.extract_mk, show p ++ 32 :: r = (p ++ [32]) ++ r by simp, List.drop_left' (by simp), List.take_of_length_le (by simp; omega)]
      rw [Lib.splitB_hit _ _ _ _ _ hi, e1, e2, splitB_at r p h2, List.map_cons, ih r (by rw [e2] at hc; omega)]
theorem cutC_none : ∀ (s : List UInt8), (44 : UInt8) ∉ s → cutC s = none
  | [], _ => rfl
  | c :: s, h => by
    have hc : c ≠ 44 := fun e => h (by simp [e])
    rw [cutC, if_neg hc, cutC_none s fun hm => h (by simp [hm])]; rfl
theorem cutC_at (r : List UInt8) : ∀ (p : List UInt8), (44 : UInt8) ∉ p → cutC (p ++ 44 :: r) = some (p, r)
  | [], _ => by rw [List.nil_append, cutC, if_pos rfl]
  | c :: p, h => by
    have hc : c ≠ 44 := fun e => h (by simp [e])
    rw [List.cons_append, cutC, if_neg hc, cutC_at r p fun hm => h (by simp [hm])]; rfl
theorem cut_comma (l : List UInt8) : Lib.cut l [44] = match cutC l with
    | none => (l, [], false)
    | some p => (p.1, p.2, true) := by
  unfold Lib.cut
  rcases index_byte 44 l with ⟨h1, h2⟩ | ⟨p, r, rfl, h2, h3⟩
  · rw [h1, cutC_none l h2]; rfl
  · rw [h3, cutC_at r p h2, if_pos (by omega)]
    simp
theorem trim_minus (s : List UInt8) : Lib.trimPrefix s [45] = bareW s := by
  unfold Lib.trimPrefix bareW
  cases s with
  | nil => rfl
  | cons c r =>
    by_cases h : c = 45
    · subst h; simp [Lib.hasPrefix]
    · have h2 : ¬ (45 : UInt8) = c := fun e => h e.symm
      simp [Lib.hasPrefix, h, h2]
end Go.Proofs.YtkandepkojfblaaDoor
