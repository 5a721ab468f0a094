/- speech: numbers as texts, in plain words. -/
import Derived.Lib.AtoiAll
import Derived.Lib.Atoi
import Derived.Lib.ItoaNum
namespace Go.Proofs.YtkandepkojfblaaDoor
open Go.Lib

theorem digitVal_some {b : UInt8} {d : Nat} (h : digitVal b = some d) : d < 10 ∧ b.toNat = 48 + d := by
  unfold digitVal at h
  split at h
  · injection h with h; omega
  · cases h
theorem decFrom_snoc (l : List UInt8) : ∀ (acc : Nat) (b : UInt8), decFrom acc (l ++ [b]) = (decFrom acc l).bind fun n => (digitVal b).map fun d => n * 10 + d := by
  induction l with
  | nil => intro acc b; simp only [List.nil_append, decFrom, Option.bind_some]; cases digitVal b <;> rfl
  | cons a r ih =>
    intro acc b
    simp only [List.cons_append, decFrom]
    cases digitVal a with
    | none => rfl
    | some d => exact ih _ b
theorem decFrom_ge : ∀ (l : List UInt8) (acc n : Nat), decFrom acc l = some n → acc ≤ n
  | [], acc, n, h => by simp only [decFrom, Option.some.injEq] at h; omega
  | a :: r, acc, n, h => by
    simp only [decFrom] at h
    cases hd : digitVal a with
    | none => rw [hd] at h; cases h
    | some d => rw [hd] at h; have := decFrom_ge r _ n h; omega
/-- A row of digits with no nought ahead is what its number is written as. -/
theorem dec_back : ∀ (k : Nat) (t : List UInt8) (m : Nat), t.length = k + 1 → decFrom 0 t = some m → (t.length = 1 ∨ t.head? ≠ some 48) → decDigits m = t
  | 0, t, m, hl, h, _ => by
    obtain ⟨b, rfl⟩ := List.length_eq_one_iff.1 hl
    simp only [decFrom] at h
    cases hd : digitVal b with
    | none => rw [hd] at h; cases h
    | some d =>
      rw [hd] at h
      simp only [Option.some.injEq] at h
      obtain ⟨h1, h2⟩ := digitVal_some hd
      rw [decDigits, dif_pos (by omega)]
      congr 1
      apply UInt8.toNat_inj.1
      rw [UInt8.toNat_ofNat']
      omega
  | k + 1, t, m, hl, h, h0 => by
    have hne : t ≠ [] := fun e => by rw [e] at hl; cases hl
    have ht : t = t.dropLast ++ [t.getLast hne] := (List.dropLast_concat_getLast hne).symm
    generalize t.getLast hne = b at ht
    have hll : t.dropLast.length = k + 1 := by rw [List.length_dropLast]; omega
    generalize t.dropLast = l at ht hll
    subst ht
    rw [decFrom_snoc] at h
    cases hn : decFrom 0 l with
    | none => rw [hn] at h; cases h
    | some n =>
      rw [hn] at h
      cases hd : digitVal b with
      | none => rw [hd] at h; cases h
      | some d =>
        rw [hd] at h
        simp only [Option.bind_some, Option.map_some, Option.some.injEq] at h
        obtain ⟨h1, h2⟩ := digitVal_some hd
        obtain ⟨a, r, rfl⟩ : ∃ a r, l = a :: r := by
          cases l with
          | nil => cases hll
          | cons a r => exact ⟨a, r, rfl⟩
        have ha : a ≠ 48 := fun e => by
          rcases h0 with h0 | h0
          · simp at h0
          · exact h0 (by simp [e])
        have hn1 : 1 ≤ n := by
          simp only [decFrom] at hn
          cases hda : digitVal a with
          | none => rw [hda] at hn; cases hn
          | some e =>
            rw [hda] at hn
            have := decFrom_ge r _ n hn
            obtain ⟨g1, g2⟩ := digitVal_some hda
            have : e ≠ 0 := fun e0 => ha (UInt8.toNat_inj.1 (by rw [g2, e0]; rfl))
            omega
        have ih := dec_back k (a :: r) n hll hn (.inr (by simpa using ha))
        rw [decDigits, dif_neg (by omega), show m / 10 = n by omega, ih]
        congr 2
        apply UInt8.toNat_inj.1
        rw [UInt8.toNat_ofNat']
        omega
/-- What stands behind the sign. -/
def bareW (s : List UInt8) : List UInt8 := if s.head? = some 45 then s.drop 1 else s
/-- A number of speech. -/
def numW (s : List UInt8) : Option Int :=
  if bareW s = [] ∨ 18 < (bareW s).length ∨ (1 < (bareW s).length ∧ (bareW s).head? = some 48) ∨ s = [45, 48] then none
  else (decFrom 0 (bareW s)).map fun (m : Nat) => if s.head? = some 45 then -(m : Int) else (m : Int)
/-- What is read as a number is what it is written as. -/
theorem num_back {s : List UInt8} {n : Int} (h : numW s = some n) : itoa n = s := by
  unfold numW at h
  split at h
  · cases h
  · rename_i hc
    cases hm : decFrom 0 (bareW s) with
    | none => rw [hm] at h; cases h
    | some m =>
      rw [hm] at h
      rw [Option.map_some] at h
      injection h with h
      obtain ⟨k, hk⟩ : ∃ k, (bareW s).length = k + 1 := ⟨(bareW s).length - 1, by
        have : (bareW s).length ≠ 0 := fun e => hc (.inl (List.length_eq_zero_iff.1 e))
        omega⟩
      have hb := dec_back k (bareW s) m hk hm (by
        by_cases e : (bareW s).length = 1
        · exact .inl e
        · exact .inr fun e2 => hc (.inr (.inr (.inl ⟨by omega, e2⟩))))
      by_cases hs : s.head? = some 45
      · rw [if_pos hs] at h
        subst h
        have hbw : bareW s = s.drop 1 := if_pos hs
        obtain ⟨r, rfl⟩ : ∃ r, s = 45 :: r := by
          cases s with
          | nil => cases hs
          | cons a r => simp only [List.head?_cons, Option.some.injEq] at hs; exact ⟨r, by rw [hs]⟩
        rw [hbw, List.drop_succ_cons, List.drop_zero] at hb
        have hm0 : m ≠ 0 := fun e => by
          subst e
          apply hc
          rw [← hb]
          right; right; right
          rw [decDigits, dif_pos (by decide)]
          rfl
        unfold itoa
        rw [if_pos (by omega), show (-(m : Int)).natAbs = m by omega, hb]
      · rw [if_neg hs] at h
        subst h
        have hbw : bareW s = s := if_neg hs
        rw [hbw] at hb
        unfold itoa
        rw [if_neg (by omega), show ((m : Int)).toNat = m by omega, hb]
theorem parse_of_dec : ∀ (l : List UInt8) (acc m : Nat), decFrom acc l = some m → (acc + 1) * 10 ^ l.length ≤ 1000000000000000000 → parseUint10 acc l = .ok m ∧ m < 1000000000000000000
  | [], acc, m, h, hb => by simp only [decFrom, Option.some.injEq] at h; subst h; exact ⟨rfl, by simp at hb; omega⟩
  | c :: r, acc, m, h, hb => by
    simp only [decFrom] at h
    cases hd : digitVal c with
    | none => rw [hd] at h; cases h
    | some d =>
      rw [hd] at h
      obtain ⟨h1, h2⟩ := digitVal_some hd
      rw [List.length_cons, Nat.pow_succ] at hb
      have hp : 1 ≤ 10 ^ r.length := Nat.one_le_pow _ _ (by decide)
      have h3 : (acc + 1) * 10 * 1 ≤ (acc + 1) * 10 * 10 ^ r.length := Nat.mul_le_mul_left _ hp
      have h4 : (acc + 1) * (10 ^ r.length * 10) = (acc + 1) * 10 * 10 ^ r.length := by rw [Nat.mul_comm (10 ^ r.length) 10, Nat.mul_assoc]
      have h5 : (acc * 10 + d + 1) * 10 ^ r.length ≤ (acc + 1) * 10 * 10 ^ r.length := Nat.mul_le_mul_right _ (by omega)
      obtain ⟨g1, g2⟩ := parse_of_dec r (acc * 10 + d) m h (by omega)
      refine ⟨?_, g2⟩
      simp only [parseUint10]
      rw [if_pos (by omega), if_neg (by omega), if_neg (by omega), show c.toNat - 48 = d by omega]
      exact g1
/-- What strconv.Atoi says of such a number. -/
theorem num_atoi {s : List UInt8} {n : Int} (h : numW s = some n) : atoiAll s = .ok n ∧ -1000000000000000000 < n ∧ n < 1000000000000000000 := by
  unfold numW at h
  split at h
  · cases h
  · rename_i hc
    cases hm : decFrom 0 (bareW s) with
    | none => rw [hm] at h; cases h
    | some m =>
      rw [hm] at h
      rw [Option.map_some] at h
      injection h with h
      have hl18 : (bareW s).length ≤ 18 := Nat.le_of_not_lt fun e => hc (.inr (.inl e))
      have hp18 : (10 : Nat) ^ (bareW s).length ≤ 10 ^ 18 := Nat.pow_le_pow_right (by decide) hl18
      obtain ⟨g1, g2⟩ := parse_of_dec (bareW s) 0 m hm (by omega)
      have hne : bareW s ≠ [] := fun e => hc (.inl e)
      have hmag : parseMag (bareW s) = .ok m := by unfold parseMag; rw [if_neg hne]; exact g1
      cases s with
      | nil => exact absurd rfl hne
      | cons c r =>
        by_cases hs : c = 45
        · subst hs
          have hbw : bareW (45 :: r) = r := rfl
          rw [hbw] at hmag
          rw [if_pos (show ((45 : UInt8) :: r).head? = some 45 from rfl)] at h
          subst h
          refine ⟨?_, by omega, by omega⟩
          simp only [atoiAll]
          rw [if_pos (.inr rfl), hmag]
          simp only [show (45 : UInt8).toNat = 45 from rfl, not_true_eq_false, false_and, if_false, true_and, if_true]
          rw [if_neg (by omega)]
        · have hbw : bareW (c :: r) = c :: r := if_neg (by simpa using hs)
          rw [hbw] at hmag hm
          rw [if_neg (by simpa using hs)] at h
          subst h
          have hc45 : c.toNat ≠ 45 := fun e => hs (UInt8.toNat_inj.1 (by rw [e]; rfl))
          have hc43 : c.toNat ≠ 43 := fun e => by
            simp only [decFrom] at hm
            cases hd : digitVal c with
            | none => rw [hd] at hm; cases hm
            | some d => have := digitVal_some hd; omega
          refine ⟨?_, by omega, by omega⟩
          simp only [atoiAll]
          rw [if_neg (by omega), hmag]
          simp only [hc45, not_false_eq_true, true_and, false_and, if_false]
          rw [if_neg (by omega)]
end Go.Proofs.YtkandepkojfblaaDoor
