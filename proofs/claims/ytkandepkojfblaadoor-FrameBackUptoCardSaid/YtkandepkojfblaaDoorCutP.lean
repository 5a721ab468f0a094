/- Lines out of bytes, plainly; the library's pieces. -/
import Derived.Test.YtkandepkojfblaaDoorStr
import Derived.Lib.SplitLaws
import Derived.Lib.Strings
namespace Go.Proofs.YtkandepkojfblaaDoor

def lineOf (k : List UInt8) : List UInt8 := if 6000 < k.length then [0] else k
/-- The lines that end, and what is kept. -/
def feed : List UInt8 → List UInt8 → List (List UInt8) × List UInt8
  | k, [] => ([], k)
  | k, c :: s => if c = 10 then (lineOf k :: (feed [] s).1, (feed [] s).2) else feed ((k ++ [c]).take 6001) s
theorem feed_append : ∀ (a k b : List UInt8), feed k (a ++ b) = ((feed k a).1 ++ (feed (feed k a).2 b).1, (feed (feed k a).2 b).2)
  | [], k, b => by simp [feed]
  | c :: s, k, b => by
    rw [List.cons_append, feed, feed]
    by_cases h : c = 10
    · rw [if_pos h, if_pos h, feed_append s [] b]; simp
    · rw [if_neg h, if_neg h, feed_append s _ b]
theorem feed_none : ∀ (p k : List UInt8), (10 : UInt8) ∉ p → k.length ≤ 6001 → feed k p = ([], (k ++ p).take 6001)
  | [], k, _, hk => by rw [feed, List.append_nil, List.take_of_length_le hk]
  | c :: p, k, h, hk => by
    have hc : c ≠ 10 := fun e => h (by simp [e])
    rw [feed, if_neg hc, feed_none p _ (fun hm => h (by simp [hm])) (by rw [List.length_take]; omega)]
    congr 1
    rw [show k ++ c :: p = (k ++ [c]) ++ p by simp]
    by_cases hl : (k ++ [c]).length ≤ 6001
    · rw [List.take_of_length_le hl]
    · have e : (k ++ [c]).length = 6002 := by rw [List.length_append, List.length_singleton] at hl ⊢; omega
      have e2 : ((k ++ [c]).take 6001).length = 6001 := by rw [List.length_take, e]; rfl
      rw [List.take_append_of_le_length (l₁ := (k ++ [c]).take 6001) (Nat.le_of_eq e2.symm), List.take_append_of_le_length (l₁ := k ++ [c]) (by omega), List.take_take, Nat.min_self]
theorem lineOf_take (k : List UInt8) : lineOf (k.take 6001) = lineOf k := by
  unfold lineOf
  by_cases h : 6000 < k.length
  · rw [if_pos h, if_pos (by rw [List.length_take]; omega)]
  · rw [if_neg h, if_neg (by rw [List.length_take]; omega), List.take_of_length_le (by omega)]
theorem feed_line (p k : List UInt8) (h : (10 : UInt8) ∉ p) (hk : k.length ≤ 6001) : feed k (p ++ [10]) = ([lineOf (k ++ p)], []) := by
  rw [feed_append, feed_none p k h hk]
  simp [feed, lineOf_take]
theorem feed_len : ∀ (s k : List UInt8), k.length ≤ 6001 → (feed k s).2.length ≤ 6001
  | [], k, h => by rw [feed]; exact h
  | c :: s, k, h => by
    rw [feed]
    split
    · exact feed_len s [] (by simp)
    · exact feed_len s _ (by rw [List.length_take]; omega)
theorem feed_nl : ∀ (s k : List UInt8), (10 : UInt8) ∉ k → (10 : UInt8) ∉ (feed k s).2
  | [], k, h => by rw [feed]; exact h
  | c :: s, k, h => by
    rw [feed]
    split
    · exact feed_nl s [] (by simp)
    · rename_i hc
      refine feed_nl s _ fun hm => ?_
      have := List.mem_of_mem_take hm
      rw [List.mem_append, List.mem_singleton] at this
      rcases this with h1 | h1
      · exact h h1
      · exact hc h1.symm

/-- The pieces behind each byte 10. -/
def splitL : List UInt8 → List (List UInt8)
  | [] => [[]]
  | c :: s => if c = 10 then [10] :: splitL s else match splitL s with
    | p :: r => (c :: p) :: r
    | [] => [[c]]
theorem splitL_none : ∀ (p : List UInt8), (10 : UInt8) ∉ p → splitL p = [p]
  | [], _ => rfl
  | c :: p, h => by
    have hc : c ≠ 10 := fun e => h (by simp [e])
    rw [splitL, if_neg hc, splitL_none p fun hm => h (by simp [hm])]
theorem splitL_line : ∀ (p r : List UInt8), (10 : UInt8) ∉ p → splitL (p ++ 10 :: r) = (p ++ [10]) :: splitL r
  | [], r, _ => by rw [List.nil_append, splitL, if_pos rfl]; rfl
  | c :: p, r, h => by
    have hc : c ≠ 10 := fun e => h (by simp [e])
    rw [List.cons_append, splitL, if_neg hc, splitL_line p r fun hm => h (by simp [hm])]; rfl

/-- What the program does with one piece. -/
def partStep (k q : List UInt8) : List (List UInt8) × List UInt8 :=
  if Lib.hasSuffix (k ++ q) [10] then ([lineOf ((k ++ q).take ((k ++ q).length - 1))], []) else ([], (k ++ q).take 6001)
def feedP : List UInt8 → List (List UInt8) → List (List UInt8) × List UInt8
  | k, [] => ([], k)
  | k, q :: r => ((partStep k q).1 ++ (feedP (partStep k q).2 r).1, (feedP (partStep k q).2 r).2)
theorem suffix_no {l : List UInt8} (h : (10 : UInt8) ∉ l) : Lib.hasSuffix l [10] = false := by
  unfold Lib.hasSuffix
  rw [Bool.eq_false_iff]
  intro hs
  rw [List.isSuffixOf_iff_suffix] at hs
  exact h (hs.subset (by simp))
theorem suffix_yes (l : List UInt8) : Lib.hasSuffix (l ++ [10]) [10] = true := by
  unfold Lib.hasSuffix
  rw [List.isSuffixOf_iff_suffix]
  exact List.suffix_append _ _
theorem feedP_split : ∀ (n : Nat) (s k : List UInt8), s.length ≤ n → (10 : UInt8) ∉ k → k.length ≤ 6001 → feedP k (splitL s) = feed k s := by
  intro n
  induction n with
  | zero =>
    intro s k h hk hl
    have hs : s = [] := List.eq_nil_of_length_eq_zero (by omega)
    subst hs
    have e : splitL [] = [[]] := rfl
    have e1 : partStep k [] = ([], k) := by
      unfold partStep
      rw [List.append_nil, suffix_no hk, if_neg (by simp), List.take_of_length_le hl]
    rw [e, feedP, feedP, e1]
    simp [feed]
  | succ n ih =>
    intro s k h hk hl
    by_cases hm : (10 : UInt8) ∈ s
    · obtain ⟨p, r, rfl, hp⟩ : ∃ p r, s = p ++ 10 :: r ∧ (10 : UInt8) ∉ p := List.eq_append_cons_of_mem hm
      rw [splitL_line p r hp, feedP]
      have e1 : partStep k (p ++ [10]) = ([lineOf (k ++ p)], []) := by
        unfold partStep
        rw [show k ++ (p ++ [10]) = (k ++ p) ++ [10] by simp, suffix_yes, if_pos rfl]
        have hlen : ((k ++ p) ++ [(10 : UInt8)]).length - 1 = (k ++ p).length := by rw [List.length_append (bs := [(10 : UInt8)])]; rfl
        rw [hlen, List.take_left' rfl]
      rw [e1, ih r [] (by simp at h; omega) (by simp) (by simp), show p ++ 10 :: r = (p ++ [10]) ++ r by simp, feed_append, feed_line p k hp hl]
    · rw [splitL_none s hm, feedP, feedP, feed_none s k hm hl]
      have : (10 : UInt8) ∉ k ++ s := by rw [List.mem_append]; rintro (h | h) <;> contradiction
      have e1 : partStep k s = ([], (k ++ s).take 6001) := by unfold partStep; rw [suffix_no this, if_neg (by simp)]
      rw [e1]
      simp

theorem index_nl : ∀ (s : List UInt8), (Lib.index s [10] = -1 ∧ (10 : UInt8) ∉ s) ∨ ∃ p r, s = p ++ 10 :: r ∧ (10 : UInt8) ∉ p ∧ Lib.index s [10] = p.length
  | [] => .inl ⟨rfl, by simp⟩
  | c :: s => by
    rw [Lib.index]
    by_cases hc : c = 10
    · subst hc
      exact .inr ⟨[], s, rfl, by simp, by simp⟩
    · have hpre : ([10] : List UInt8).isPrefixOf (c :: s) = false := by simp [List.isPrefixOf]; exact fun e => hc e.symm
      rw [hpre]
      rcases index_nl s with ⟨h1, h2⟩ | ⟨p, r, rfl, h2, h3⟩
      · exact .inl ⟨by rw [h1]; rfl, by simp [h2]; exact fun e => hc e.symm⟩
      · refine .inr ⟨c :: p, r, rfl, by simp [h2]; exact fun e => hc e.symm, ?_⟩
        rw [h3]
        have : ((p.length : Int) == -1) = false := by simp
        simp [this]
theorem split_lines : ∀ (k : Nat) (s : List UInt8), Lib.countB (str s) (str [10]) = k → Lib.splitB (str [10]) 1 k (str s) = (splitL s).map str := by
  intro k
  induction k with
  | zero =>
    intro s h
    rcases index_nl s with ⟨h1, h2⟩ | ⟨p, r, rfl, h2, h3⟩
    · rw [Lib.splitB_zero, splitL_none s h2]; rfl
    · exfalso
      have hi : Lib.indexB (str (p ++ 10 :: r)) (str [10]) = (p.length : Nat) := by unfold Lib.indexB str; simpa using h3
      have := Lib.countB_hit _ _ _ (by simp [str_size]) hi
      omega
  | succ k ih =>
    intro s h
    rcases index_nl s with ⟨h1, h2⟩ | ⟨p, r, rfl, h2, h3⟩
    · have hi : Lib.indexB (str s) (str [10]) = -1 := by unfold Lib.indexB str; simpa using h1
      have := Lib.countB_miss _ _ hi
      omega
    · have hi : Lib.indexB (str (p ++ 10 :: r)) (str [10]) = (p.length : Nat) := by unfold Lib.indexB str; simpa using h3
      have hc := Lib.countB_hit _ _ _ (by simp [str_size]) hi
      have e1 : (str (p ++ 10 :: r)).extract 0 (p.length + 1) = str (p ++ [10]) := by
        unfold str; rw [ByteArray.extract_mk, show p ++ 10 :: r = (p ++ [10]) ++ r by simp, List.drop_zero, List.take_append_of_le_length (by simp), List.take_of_length_le (by simp)]
      have e2 : (str (p ++ 10 :: r)).extract (p.length + (str [10]).size) (str (p ++ 10 :: r)).size = str r := by
        rw [str_size, str_size]; unfold str; rw [ByteArray.extract_mk, show p ++ 10 :: r = (p ++ [10]) ++ r by simp, List.drop_left' (by simp), List.take_of_length_le (by simp; omega)]
      rw [e2] at hc
      rw [Lib.splitB_hit _ _ _ _ _ hi, e1, e2, ih r (by omega), splitL_line p r h2]
      rfl
end Go.Proofs.YtkandepkojfblaaDoor
