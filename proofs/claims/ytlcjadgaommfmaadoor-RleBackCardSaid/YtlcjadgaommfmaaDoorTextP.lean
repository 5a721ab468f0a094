/- What is written of a rule is read as it; what is read is written as it was. -/
import Derived.Test.YtlcjadgaommfmaaDoorText
namespace Go.Proofs.YtlcjadgaommfmaaDoor

theorem rise_stop (c : UInt8) (hc : c.toNat < 48) (r : List UInt8) : ∀ (p : List UInt8) (lo : Nat), (rise lo p).2 = [] → rise lo (p ++ c :: r) = ((rise lo p).1, c :: r)
  | [], lo, _ => by
    have e : rise lo [] = (0, []) := by rw [rise]
    rw [List.nil_append, e, rise, if_neg (by omega)]
  | a :: p, lo, h => by
    rw [rise] at h
    by_cases ha : 48 ≤ a.toNat ∧ a.toNat ≤ 56 ∧ lo ≤ a.toNat - 48
    · rw [if_pos ha] at h
      have ih := rise_stop c hc r p _ h
      rw [List.cons_append, rise, if_pos ha, rise, if_pos ha, ih]
    · rw [if_neg ha] at h; simp at h
theorem rise_digs_fin : ∀ m : Fin 512, rise 0 (digs ((m.val : Nat) : Int) 9) = (m.val, []) := by decide +kernel
theorem rise_digs (m : Int) (h0 : 0 ≤ m) (h1 : m < 512) : rise 0 (digs m 9) = (m.toNat, []) := by
  obtain ⟨n, rfl⟩ := Int.eq_ofNat_of_zero_le h0
  exact rise_digs_fin ⟨n, by omega⟩

theorem read_text {b l : Int} (h : goodR b l) : readR (textL b l) = (b, l, 0) := by
  obtain ⟨⟨b1, b2⟩, ⟨l1, l2⟩, he⟩ := h
  have hd := rise_digs b b1 b2
  have hl := rise_digs l l1 l2
  have hs := rise_stop 47 (by decide) (83 :: digs l 9) (digs b 9) 0 (by rw [hd])
  unfold textL readR
  simp only [hs, hd, hl]
  have e : b.toNat % 2 = 0 := by omega
  have eb : ((b.toNat : Nat) : Int) = b := by omega
  have el : ((l.toNat : Nat) : Int) = l := by omega
  simp [e, eb, el]

/-- The digits of a mask's bits from lo on. -/
def digsFrom (lo m : Nat) : List UInt8 := ((List.range 9).filter fun n => decide (lo ≤ n) && (m / 2 ^ n % 2 == 1)).map fun n => UInt8.ofNat (48 + n)
theorem digsFrom_step : ∀ (lo : Fin 10) (d : Fin 9) (j : Fin (2 ^ (8 - d.val))), lo.val ≤ d.val → digsFrom lo.val (2 ^ d.val + 2 ^ (d.val + 1) * j.val) = UInt8.ofNat (48 + d.val) :: digsFrom (d.val + 1) (2 ^ (d.val + 1) * j.val) := by decide +kernel
theorem digsFrom_zero : ∀ (lo : Fin 10), digsFrom lo.val 0 = [] := by decide +kernel
theorem digs_from (m : Nat) : digs (m : Int) 9 = digsFrom 0 m := by
  unfold digs digsFrom
  congr 1
  apply List.filter_congr
  intro n _
  unfold bitB
  have e : (((m / 2 ^ n % 2 : Nat) : Int)) = (m : Int) / 2 ^ n % 2 := by rw [Int.natCast_emod, Int.natCast_ediv, Int.natCast_pow]; rfl
  simp only [Nat.zero_le, decide_true, Bool.true_and]
  rw [← e]
  rw [Bool.eq_iff_iff, beq_iff_eq, beq_iff_eq]
  omega

theorem rise_split : ∀ (s : List UInt8) (lo : Nat), lo ≤ 9 → s = digsFrom lo (rise lo s).1 ++ (rise lo s).2 ∧ ∃ q, (rise lo s).1 = 2 ^ lo * q
  | [], lo, h => by
    rw [rise]
    exact ⟨by rw [digsFrom_zero ⟨lo, by omega⟩]; rfl, 0, rfl⟩
  | c :: s, lo, h => by
    rw [rise]
    split
    · rename_i hc
      obtain ⟨d, hd⟩ : ∃ d, c.toNat - 48 = d := ⟨_, rfl⟩
      have hd8 : d ≤ 8 := by omega
      have hlo : lo ≤ d := by omega
      rw [hd]
      have hlt := rise_lt s (d + 1) (by omega)
      obtain ⟨h1, q, hq⟩ := rise_split s (d + 1) (by omega)
      have hj : q < 2 ^ (8 - d) := by
        rw [hq] at hlt
        have e : (512 : Nat) = 2 ^ (d + 1) * 2 ^ (8 - d) := by rw [← Nat.pow_add, show d + 1 + (8 - d) = 9 by omega]
        have hp : 0 < 2 ^ (d + 1) := Nat.pow_pos (by omega)
        exact Nat.lt_of_mul_lt_mul_left (a := 2 ^ (d + 1)) (by omega)
      have hst := digsFrom_step ⟨lo, by omega⟩ ⟨d, by omega⟩ ⟨q, hj⟩ hlo
      simp only at hst
      have hcd : c = UInt8.ofNat (48 + d) := by
        apply UInt8.toNat_inj.1
        rw [UInt8.toNat_ofNat']
        omega
      dsimp only
      rw [hq, hst, ← hq, List.cons_append, ← h1]
      refine ⟨by rw [← hcd], ?_⟩
      refine ⟨2 ^ (d - lo) + 2 ^ (d + 1 - lo) * q, ?_⟩
      rw [hq, Nat.mul_add, ← Nat.pow_add, ← Nat.mul_assoc, ← Nat.pow_add, show lo + (d - lo) = d by omega, show lo + (d + 1 - lo) = d + 1 by omega]
    · exact ⟨by dsimp only; rw [digsFrom_zero ⟨lo, by omega⟩]; rfl, 0, rfl⟩
theorem rise_all {s r : List UInt8} {m : Nat} (h : rise 0 s = (m, r)) : s = digs (m : Int) 9 ++ r := by
  have := (rise_split s 0 (by omega)).1
  rw [h] at this
  rw [digs_from]; exact this

/-- Either a rule that is written as just this text, or none. -/
theorem read_cases (s : List UInt8) : (∃ b l, readR s = (b, l, 0) ∧ goodR b l ∧ textL b l = s) ∨ (∃ e, readR s = (0, 0, e) ∧ (e = 2 ∨ e = 4)) := by
  unfold readR
  split
  · exact .inr ⟨2, rfl, .inl rfl⟩
  · rename_i c s1
    by_cases hc : c.toNat = 66
    · rw [if_pos hc]
      split
      · rename_i x y s3 hr
        by_cases hxy : x.toNat = 47 ∧ y.toNat = 83
        · rw [if_pos hxy]
          by_cases h4 : (rise 0 s3).2 = []
          · rw [if_pos h4]
            by_cases he : (rise 0 s1).1 % 2 = 0
            · rw [if_pos he]
              have k1 := rise_lt s1 0 (by omega)
              have k2 := rise_lt s3 0 (by omega)
              refine .inl ⟨_, _, rfl, by unfold goodR; omega, ?_⟩
              have e1 := rise_all (s := s1) (m := (rise 0 s1).1) (r := x :: y :: s3) (by rw [← hr])
              have e2 := rise_all (s := s3) (m := (rise 0 s3).1) (r := []) (by rw [← h4])
              rw [List.append_nil] at e2
              obtain ⟨rfl, rfl⟩ := slash_eq hxy.1 hxy.2
              have hcc : c = 66 := UInt8.toNat_inj.1 hc
              unfold textL
              rw [← e2, ← e1, hcc]
            · rw [if_neg he]; exact .inr ⟨4, rfl, .inr rfl⟩
          · rw [if_neg h4]; exact .inr ⟨2, rfl, .inl rfl⟩
        · rw [if_neg hxy]; exact .inr ⟨2, rfl, .inl rfl⟩
      · exact .inr ⟨2, rfl, .inl rfl⟩
    · rw [if_neg hc]; exact .inr ⟨2, rfl, .inl rfl⟩
end Go.Proofs.YtlcjadgaommfmaaDoor
