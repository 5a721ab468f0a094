/- ArenaRoom: the plain law. -/
import Derived.Test.YtfoipadgicjcaaaArNew
namespace Go.Proofs.Ytfoipadgicjcaaa
open Go.RowKit

/-- What ArenaRoom keeps true of its arena, i deeds behind the start. -/
structure Tame (Q : Nat → Int) (S : ArS) (i : Nat) : Prop where
  inv : Inv S
  live : S.live = S.size
  room : S.room = 100
  rest : ∀ t, 4 ≤ t → t < 64 → S.count t = 0
  quota : ∀ t, t < 4 → S.quota t = Q t
  q : ∀ t, t < 4 → 0 ≤ Q t ∧ Q t ≤ 25
  le : ∀ t, t < 4 → S.count t ≤ Q t
  added : ∀ t, t < 4 → (S.added t).length ≤ i
/-- What others had stays, and what one had may go. -/
structure Less (S S' : ArS) : Prop where
  live : S'.live = S.live
  size : S'.size = S.size
  room : S'.room = S.room
  quota : S'.quota = S.quota
  count : ∀ t, S'.count t ≤ S.count t
  added : S'.added = S.added
theorem Less.refl (S : ArS) : Less S S := ⟨rfl, rfl, rfl, rfl, fun _ => Int.le_refl _, rfl⟩
theorem loseS_less (S : ArS) (t i : Nat) : Less S (loseS S t i) := by
  unfold loseS
  cases S.ents[i]? with
  | none => exact Less.refl S
  | some e =>
    simp only
    split
    · refine ⟨rfl, rfl, rfl, rfl, fun k => ?_, rfl⟩
      show upd S.count t (S.count t - 1) k ≤ S.count k
      by_cases hk : k = t
      · subst hk; rw [upd_same]; omega
      · rw [upd_ne _ _ hk]; exact Int.le_refl _
    · exact Less.refl S
theorem loseL_less (t : Nat) : ∀ (l : List Int) (S : ArS), Less S (loseL S t l)
  | [], S => Less.refl S
  | x :: l, S => by
    have h1 := loseS_less S t x.toNat
    have h2 := loseL_less t l (loseS S t x.toNat)
    exact ⟨h2.live.trans h1.live, h2.size.trans h1.size, h2.room.trans h1.room, h2.quota.trans h1.quota, fun k => Int.le_trans (h2.count k) (h1.count k), h2.added.trans h1.added⟩
section
variable {Q : Nat → Int} {S S' : ArS} {i : Nat}
theorem Tame.live_le (h : Tame Q S i) : S.live ≤ 100 := by
  have := h.inv.part; have := h.inv.full; have := h.live; have := h.room; omega
theorem Tame.mono (h : Tame Q S i) : Tame Q S (i + 1) := ⟨h.inv, h.live, h.room, h.rest, h.quota, h.q, h.le, fun t ht => Nat.le_succ_of_le (h.added t ht)⟩
theorem Tame.less (h : Tame Q S i) (hl : Less S S') (hI : Inv S') {t : Nat} : Tame Q { S' with added := upd S'.added t [] } (i + 1) := by
  refine ⟨hI.mark t, hl.live.trans (h.live.trans (by rw [hl.size])), hl.room.trans h.room, fun k hk hk2 => ?_, fun k hk => (congrFun hl.quota k).trans (h.quota k hk), h.q, fun k hk => Int.le_trans (hl.count k) (h.le k hk), fun k hk => ?_⟩
  · have h1 := hl.count k
    have h2 := h.rest k hk hk2
    have h3 := hI.count k hk2
    show S'.count k = 0
    omega
  · show (upd S'.added t [] k).length ≤ i + 1
    by_cases hkt : k = t
    · subst hkt; rw [upd_same]; exact Nat.zero_le _
    · rw [upd_ne _ _ hkt, hl.added]; exact Nat.le_succ_of_le (h.added k hk)
theorem Tame.undo (h : Tame Q S i) {t : Nat} (ht : t < 4) : Tame Q (undoS S t) (i + 1) := by
  have hl := loseL_less t (S.added t) S
  have := h.less hl (loseL_inv (by omega) _ _ h.inv) (t := t)
  rw [hl.added] at this
  exact this
theorem Tame.mark (h : Tame Q S i) (t : Nat) : Tame Q { S with added := upd S.added t [] } (i + 1) := h.less (Less.refl S) h.inv
theorem Tame.clean (h : Tame Q S i) {t : Nat} (ht : t < 4) {roots : List Int} (hc : CleanR S t roots S') : Tame Q S' (i + 1) := by
  obtain ⟨L, _, _, rfl⟩ := hc
  have hl := loseL_less t L S
  have := h.less hl (loseL_inv (by omega) _ _ h.inv) (t := t)
  rw [hl.added] at this
  exact this
theorem countP_or4 {α : Type} (p q r s b : α → Bool) : ∀ l : List α, (∀ x ∈ l, b x = true → p x = true ∨ q x = true ∨ r x = true ∨ s x = true) → l.countP b ≤ l.countP p + l.countP q + l.countP r + l.countP s
  | [], _ => by simp
  | a :: l, h => by
    have ih := countP_or4 p q r s b l fun x hx => h x (List.mem_cons_of_mem _ hx)
    have ha := h a (List.mem_cons_self ..)
    simp only [List.countP_cons]
    by_cases hb : b a = true
    · rcases ha hb with h1 | h1 | h1 | h1 <;> simp only [h1, hb, if_true] <;> split <;> split <;> split <;> omega
    · rw [if_neg hb]
      split <;> split <;> split <;> split <;> omega
theorem mask_bit {m : Nat} (h0 : m ≠ 0) (hm : m < 18446744073709551616) : ∃ t, t < 64 ∧ m.testBit t = true := by
  obtain ⟨t, ht⟩ := Nat.exists_testBit_of_ne_zero h0
  refine ⟨t, ?_, ht⟩
  by_cases h : t < 64
  · exact h
  · have : m.testBit t = false := Nat.testBit_lt_two_pow (Nat.lt_of_lt_of_le hm (by
      rw [show 18446744073709551616 = 2 ^ 64 by decide]; exact Nat.pow_le_pow_right (by decide) (by omega)))
    rw [this] at ht; cases ht
/-- Behind a sweep no more things live than the four tenants have. -/
theorem swept_sum (hI : Inv S) (hl : S.live = S.size) {n : Nat} (h : SweepR S S' n) (h0 : ∀ t, 4 ≤ t → t < 64 → S.count t = 0) : S'.live ≤ S.count 0 + S.count 1 + S.count 2 + S.count 3 := by
  obtain ⟨g1, g2⟩ := h.inv hI hl
  have g3 := h.swept hI
  have hc : S'.count = S.count := by
    obtain ⟨S1, h1, rfl⟩ := h
    exact (h1.facts hI).count
  have c0 := g1.count 0 (by decide)
  have c1 := g1.count 1 (by decide)
  have c2 := g1.count 2 (by decide)
  have c3 := g1.count 3 (by decide)
  rw [hc] at c0 c1 c2 c3
  have := countP_or4 (fun e : EntD => e.mask.testBit 0) (fun e => e.mask.testBit 1) (fun e => e.mask.testBit 2) (fun e => e.mask.testBit 3) (fun e => e.mask != 0) S'.ents fun e he hb => by
    obtain ⟨t, ht, htb⟩ := mask_bit (by simpa using hb) (g1.keys e he).2.2.2
    by_cases h4 : t < 4
    · rcases (by omega : t = 0 ∨ t = 1 ∨ t = 2 ∨ t = 3) with rfl | rfl | rfl | rfl
      · exact .inl htb
      · exact .inr (.inl htb)
      · exact .inr (.inr (.inl htb))
      · exact .inr (.inr (.inr htb))
    · have hz := g1.count t ht
      rw [hc, h0 t (by omega) ht] at hz
      have hz' : bitC S'.ents t = 0 := by omega
      unfold bitC at hz'
      rw [List.countP_eq_zero] at hz'
      exact absurd htb (hz' e he)
  unfold bitC at c0 c1 c2 c3
  omega
theorem gain_in {t j : Nat} {e : EntD} (he : S.ents[j]? = some e) : gainS S t j = { S with ents := S.ents.set j { e with mask := setB e.mask t }, count := upd S.count t (S.count t + 1), added := upd S.added t (S.added t ++ [(j : Int)]) } := by unfold gainS; rw [he]
theorem sweep_keeps (hI : Inv S) {n : Nat} (h : SweepR S S' n) : S'.count = S.count ∧ S'.quota = S.quota ∧ S'.added = S.added ∧ S'.room = S.room ∧ S'.ents.length = S.ents.length := by
  obtain ⟨S1, h1, rfl⟩ := h
  have hf := h1.facts hI
  exact ⟨hf.count, hf.quota, hf.added, hf.room, hf.len⟩
theorem Tame.sum (h : Tame Q S i) {t : Nat} (ht : t < 4) (hc : S.count t < Q t) : S.count 0 + S.count 1 + S.count 2 + S.count 3 < 100 := by
  have q0 := h.q 0 (by decide)
  have q1 := h.q 1 (by decide)
  have q2 := h.q 2 (by decide)
  have q3 := h.q 3 (by decide)
  have l0 := h.le 0 (by decide)
  have l1 := h.le 1 (by decide)
  have l2 := h.le 2 (by decide)
  have l3 := h.le 3 (by decide)
  rcases (by omega : t = 0 ∨ t = 1 ∨ t = 2 ∨ t = 3) with rfl | rfl | rfl | rfl <;> omega
theorem Tame.give (h : Tame Q S i) {t : Nat} (ht : t < 4) {k : KeyA} {lv va r x : Int} (hk : k.ok) (hlv : 0 ≤ lv ∧ lv ≤ 44) (hg : GiveR S t k lv va r x S') : Tame Q S' (i + 1) ∧ x ≠ 5 ∧ i64r r := by
  obtain ⟨hI', hl'⟩ := hg.inv (by omega) h.inv h.live hk hlv
  have hlen := h.inv.lenN
  have hgain : ∀ (S1 : ArS) (j : Nat) (e : EntD), S1.ents[j]? = some e → S1.count = S.count → S1.quota = S.quota → S1.added = S.added → S1.room = S.room → S.count t < S.quota t → (∀ u, u ≠ t → (gainS S1 t j).count u = S.count u) ∧ (gainS S1 t j).count t = S.count t + 1 ∧ (gainS S1 t j).quota = S.quota ∧ (gainS S1 t j).room = S.room ∧ ∀ u, ((gainS S1 t j).added u).length ≤ (S.added u).length + 1 := by
    intro S1 j e he e1 e2 e3 e4 _
    rw [gain_in he]
    refine ⟨fun u hu => ?_, ?_, e2, e4, fun u => ?_⟩
    · show upd S1.count t (S1.count t + 1) u = _
      rw [upd_ne _ _ hu, e1]
    · show upd S1.count t (S1.count t + 1) t = _
      rw [upd_same, e1]
    · show (upd S1.added t (S1.added t ++ [(j : Int)]) u).length ≤ _
      by_cases hu : u = t
      · subst hu; rw [upd_same, e3]; simp
      · rw [upd_ne _ _ hu, e3]; omega
  have hdone : ∀ {S' : ArS}, Inv S' → S'.live = S'.size → S.count t < S.quota t → ((∀ u, u ≠ t → S'.count u = S.count u) ∧ S'.count t = S.count t + 1 ∧ S'.quota = S.quota ∧ S'.room = S.room ∧ ∀ u, (S'.added u).length ≤ (S.added u).length + 1) → Tame Q S' (i + 1) := by
    intro S' hI' hl' hq ⟨e1, e2, e3, e4, e5⟩
    refine ⟨hI', hl', e4.trans h.room, fun u hu hu2 => (e1 u (by omega)).trans (h.rest u hu hu2), fun u hu => (congrFun e3 u).trans (h.quota u hu), h.q, fun u hu => ?_, fun u hu => Nat.le_trans (e5 u) (Nat.succ_le_succ (h.added u hu))⟩
    by_cases hut : u = t
    · subst hut
      have := h.quota u hu
      omega
    · rw [e1 u hut]; exact h.le u hu
  have small : ∀ j : Nat, j ≤ 200002 → i64r (j : Int) := fun j hj => ⟨by omega, by omega⟩
  cases hg with
  | has j e hx he hb =>
    have := (List.getElem?_eq_some_iff.1 he).1
    exact ⟨h.mono, by decide, small j (by omega)⟩
  | much => exact ⟨h.mono, by decide, small 0 (by omega)⟩
  | joins j e hx he hb hq =>
    have := (List.getElem?_eq_some_iff.1 he).1
    exact ⟨hdone hI' hl' hq (hgain S j e he rfl rfl rfl rfl hq), by decide, small j (by omega)⟩
  | full S0 n hx hq hr hs hr2 =>
    exfalso
    have h1 := swept_sum h.inv h.live hs h.rest
    have h2 := h.sum ht (by rw [← h.quota t ht]; exact hq)
    have h3 := (sweep_keeps h.inv hs).2.2.2.1
    have h4 := h.room
    omega
  | makes S0 S1 j hx hq hs hr ht2 =>
    have h0 : Inv S0 ∧ S0.live = S0.size ∧ S0.idx k = none ∧ S0.count = S.count ∧ S0.quota = S.quota ∧ S0.added = S.added ∧ S0.room = S.room := by
      rcases hs with ⟨_, rfl⟩ | ⟨_, n, hs⟩
      · exact ⟨h.inv, h.live, hx, rfl, rfl, rfl, rfl⟩
      · have hkp := sweep_keeps h.inv hs
        exact ⟨(hs.inv h.inv h.live).1, (hs.inv h.inv h.live).2, hs.gone h.inv hx, hkp.1, hkp.2.1, hkp.2.2.1, hkp.2.2.2.1⟩
    obtain ⟨h1, h2, h3, e1, e2, e3, e4⟩ := h0
    obtain ⟨g1, g2, g3⟩ := h1.made (va := va) ht2 hk h3 hlv (by omega)
    have he : (newS S1 j k lv va).ents[j]? = some ⟨k, lv, va, 0⟩ := set_some g2
    obtain ⟨k1, k2, k3, k4, k5, k6, k7⟩ := ht2.keeps
    have hj := (List.getElem?_eq_some_iff.1 he).1
    have hn := g1.lenN
    exact ⟨hdone hI' hl' hq (hgain (newS S1 j k lv va) j _ he (k4.trans e1) (k5.trans e2) (k6.trans e3) (k7.trans e4) hq), by decide, small j (by omega)⟩
theorem Tame.join (h : Tame Q S i) {t : Nat} (ht : t < 4) {q0 q1 q2 q3 r x : Int} (r0 : i64r q0) (r1 : i64r q1) (r2 : i64r q2) (r3 : i64r q3) (hj : JoinR S t q0 q1 q2 q3 r x S') : Tame Q S' (i + 1) ∧ x ≠ 5 ∧ i64r r := by
  cases hj with
  | none => exact ⟨h.mono, by decide, by constructor <;> decide⟩
  | level => exact ⟨h.mono, by decide, by constructor <;> decide⟩
  | gives r x S' ho hl hlt hg =>
    have := level_pos h.inv q0
    exact h.give ht ⟨⟨by show (-9223372036854775808 : Int) ≤ 0; decide, by show (0 : Int) ≤ 9223372036854775807; decide⟩, r0, r1, r2, r3⟩ (by omega) hg
theorem Tame.note (h : Tame Q S i) {t : Nat} (ht : t < 4) {s r j v x : Int} (r0 : i64r s) (r1 : i64r r) (r2 : i64r j) (hj : NoteR S t s r j v x S') : Tame Q S' (i + 1) ∧ x ≠ 5 := by
  cases hj with
  | none => exact ⟨h.mono, by decide⟩
  | twice => exact ⟨h.mono, by decide⟩
  | gives id x S' _ _ _ hg =>
    have := h.give ht (noteK_ok r0 r1 r2) (by decide) hg
    exact ⟨this.1, this.2.1⟩
end
end Go.Proofs.Ytfoipadgicjcaaa
