/- The arena: what always holds of it. -/
import Derived.Test.YtfoipadgicjcaaaArMark
namespace Go.Proofs.Ytfoipadgicjcaaa
open Go.RowKit

theorem countP_same {P Q : Nat → Bool} {n : Nat} (h : ∀ j, j < n → P j = Q j) : (List.range n).countP P = (List.range n).countP Q :=
  List.countP_congr fun j hj => by rw [h j (List.mem_range.1 hj)]
theorem countP_flip {P Q : Nat → Bool} {i : Nat} : ∀ {n : Nat}, i < n → P i = false → Q i = true → (∀ j, j < n → j ≠ i → P j = Q j) → (List.range n).countP Q = (List.range n).countP P + 1
  | 0, h, _, _, _ => by omega
  | n + 1, h, hp, hq, hj => by
    rw [List.range_succ, List.countP_append, List.countP_append]
    by_cases hin : i = n
    · subst hin
      rw [countP_same (fun j hj' => (hj j (by omega) (by omega)).symm)]
      simp [hp, hq]
    · rw [countP_flip (by omega) hp hq (fun j hj' hne => hj j (by omega) hne)]
      simp [hj n (by omega) (Ne.symm hin)]; omega
theorem countP_put {α : Type} (p : α → Bool) : ∀ (l : List α) (i : Nat) (e e' : α), l[i]? = some e → (l.set i e').countP p + (if p e then 1 else 0) = l.countP p + (if p e' then 1 else 0)
  | [], i, e, e', h => by simp at h
  | a :: l, 0, e, e', h => by
    simp at h; subst h
    rw [List.set_cons_zero, List.countP_cons, List.countP_cons]; omega
  | a :: l, i + 1, e, e', h => by
    have ih := countP_put p l i e e' (by simpa using h)
    rw [List.set_cons_succ, List.countP_cons, List.countP_cons]; omega

def zeroE : EntD := ⟨⟨0, 0, 0, 0, 0⟩, 0, 0, 0⟩
def bitC (l : List EntD) (t : Nat) : Nat := l.countP fun e => e.mask.testBit t
def inIdx (S : ArS) (i : Nat) : Bool := match S.ents[i]? with | some e => decide (S.idx e.key = some (i : Int)) | none => false
theorem inIdx_eq {S : ArS} {i : Nat} {e : EntD} (he : S.ents[i]? = some e) : inIdx S i = decide (S.idx e.key = some (i : Int)) := by unfold inIdx; rw [he]
theorem inIdx_same {S S' : ArS} {j : Nat} (h1 : S'.ents[j]? = S.ents[j]?) (h2 : ∀ e, S.ents[j]? = some e → (S'.idx e.key = some (j : Int) ↔ S.idx e.key = some (j : Int))) : inIdx S' j = inIdx S j := by
  cases he : S.ents[j]? with
  | none => unfold inIdx; rw [h1, he]
  | some e => rw [inIdx_eq he, inIdx_eq (h1.trans he), decide_eq_decide]; exact h2 e he
theorem inIdx_no {S : ArS} {i : Nat} (h : ∀ k, S.idx k ≠ some (i : Int)) : inIdx S i = false := by
  cases he : S.ents[i]? with
  | none => unfold inIdx; rw [he]
  | some e => rw [inIdx_eq he, decide_eq_false_iff_not]; exact h _
structure Inv (S : ArS) : Prop where
  room : 0 ≤ S.room ∧ S.room ≤ 200000
  zero : S.ents[0]? = some zeroE ∧ S.ents[1]? = some zeroE
  part : S.size + S.free.length + 2 = S.ents.length
  full : (S.ents.length : Int) ≤ 2 + S.room
  cnt : S.size = (List.range S.ents.length).countP (inIdx S)
  idx : ∀ k id, S.idx k = some id → ∃ (i : Nat) (e : EntD), id = i ∧ 2 ≤ i ∧ S.ents[i]? = some e ∧ e.key = k
  own : ∀ (i : Nat) e, S.ents[i]? = some e → e.mask ≠ 0 → 2 ≤ i ∧ S.idx e.key = some (i : Int)
  keys : ∀ e ∈ S.ents, e.key.ok ∧ 0 ≤ e.level ∧ e.level ≤ 44 ∧ e.mask < 18446744073709551616
  nodup : S.free.Nodup
  free : ∀ x ∈ S.free, ∃ i : Nat, x = i ∧ 2 ≤ i ∧ S.ents[i]? = some zeroE ∧ ∀ k, S.idx k ≠ some x
  count : ∀ t, t < 64 → S.count t = bitC S.ents t
  added : ∀ t, t < 64 → ∀ x ∈ S.added t, ∃ i : Nat, x = i ∧ 2 ≤ i ∧ i < S.ents.length
section
variable {S : ArS}
theorem Inv.len (h : Inv S) : 2 ≤ S.ents.length := by have := h.part; omega
theorem Inv.lenN (h : Inv S) : S.ents.length ≤ 200002 := by have := h.full; have := h.room; omega
theorem bitC_le (l : List EntD) (t : Nat) : bitC l t ≤ l.length := List.countP_le_length
theorem Inv.cnt_le (h : Inv S) {t : Nat} (ht : t < 64) : 0 ≤ S.count t ∧ S.count t ≤ 200002 := by
  have := h.count t ht; have := bitC_le S.ents t; have := h.lenN; omega
theorem zero_ok : zeroE.key.ok ∧ 0 ≤ zeroE.level ∧ zeroE.level ≤ 44 ∧ zeroE.mask < 18446744073709551616 := by
  refine ⟨⟨?_, ?_, ?_, ?_, ?_⟩, ?_, ?_, ?_⟩ <;> first | (unfold zeroE i64r; decide) | (unfold zeroE; decide)
theorem testBit_ne {m t : Nat} (h : m.testBit t = true) : m ≠ 0 := by rintro rfl; simp at h
theorem set_some {α : Type} {l : List α} {i : Nat} {e e' : α} (he : l[i]? = some e) : (l.set i e')[i]? = some e' := by
  have := (List.getElem?_eq_some_iff.1 he).1
  simp [this]
/-- A mask is written: what the marks are made of stays. -/
theorem Inv.remask (h : Inv S) {t i : Nat} {e : EntD} {m : Nat} {c : Int} {ad : Nat → List Int} (ht : t < 64) (he : S.ents[i]? = some e) (hm : m < 18446744073709551616) (hix : m ≠ 0 → 2 ≤ i ∧ S.idx e.key = some (i : Int))
    (hb : ∀ k, k ≠ t → m.testBit k = e.mask.testBit k) (hc : c + (if e.mask.testBit t then 1 else 0) = S.count t + (if m.testBit t then 1 else 0))
    (had : ∀ t, t < 64 → ∀ x ∈ ad t, ∃ i : Nat, x = i ∧ 2 ≤ i ∧ i < S.ents.length) :
    Inv { S with ents := S.ents.set i { e with mask := m }, count := upd S.count t c, added := ad } := by
  have hi := (List.getElem?_eq_some_iff.1 he).1
  have hg : ∀ j, (S.ents.set i { e with mask := m })[j]? = if j = i then some { e with mask := m } else S.ents[j]? := by
    intro j
    by_cases hj : j = i
    · subst hj; rw [if_pos rfl]; exact set_some he
    · rw [if_neg hj, List.getElem?_set_ne (Ne.symm hj)]
  have hin : ∀ j, inIdx { S with ents := S.ents.set i { e with mask := m }, count := upd S.count t c, added := ad } j = inIdx S j := by
    intro j
    unfold inIdx
    simp only [hg]
    by_cases hj : j = i
    · subst hj; rw [if_pos rfl, he]
    · rw [if_neg hj]
  have hz : ∀ j, j < 2 → (S.ents[j]? = some zeroE) → (S.ents.set i { e with mask := m })[j]? = some zeroE := by
    intro j hj hz
    rw [hg]
    by_cases hji : j = i
    · subst hji
      rw [if_pos rfl]
      have : m = 0 := by
        by_cases h0 : m = 0
        · exact h0
        · have := (hix h0).1; omega
      rw [hz] at he; cases he; subst this; rfl
    · rw [if_neg hji]; exact hz
  refine ⟨h.room, ⟨hz 0 (by omega) h.zero.1, hz 1 (by omega) h.zero.2⟩, ?_, ?_, ?_, ?_, ?_, ?_, h.nodup, ?_, ?_, ?_⟩
  · simp only [List.length_set]; exact h.part
  · simp only [List.length_set]; exact h.full
  · simp only [List.length_set]
    rw [countP_same (fun j _ => hin j)]; exact h.cnt
  · intro k id hk
    obtain ⟨j, e', h1, h2, h3, h4⟩ := h.idx k id hk
    by_cases hj : j = i
    · subst hj
      rw [he] at h3; cases h3
      exact ⟨j, { e with mask := m }, h1, h2, set_some he, h4⟩
    · exact ⟨j, e', h1, h2, by simp only [hg]; rw [if_neg hj]; exact h3, h4⟩
  · intro j e' hj hne
    simp only [hg] at hj
    by_cases hji : j = i
    · subst hji
      rw [if_pos rfl] at hj; cases hj
      exact hix hne
    · rw [if_neg hji] at hj; exact h.own j e' hj hne
  · intro e' he'
    rcases List.mem_or_eq_of_mem_set he' with h1 | h1
    · exact h.keys e' h1
    · rw [h1]; have := h.keys e (List.mem_of_getElem? he); exact ⟨this.1, this.2.1, this.2.2.1, hm⟩
  · intro x hx
    obtain ⟨j, h1, h2, h3, h4⟩ := h.free x hx
    refine ⟨j, h1, h2, ?_, h4⟩
    simp only [hg]
    by_cases hji : j = i
    · subst hji
      rw [if_pos rfl]
      rw [he] at h3; cases h3
      have : m = 0 := by
        by_cases h0 : m = 0
        · exact h0
        · exact absurd (h1 ▸ (hix h0).2) (h4 _)
      subst this; rfl
    · rw [if_neg hji]; exact h3
  · intro k hk
    have hp := countP_put (fun e : EntD => e.mask.testBit k) S.ents i e { e with mask := m } he
    have hk2 := h.count k hk
    show upd S.count t c k = (bitC (S.ents.set i { e with mask := m }) k : Int)
    unfold bitC at hk2 ⊢
    by_cases hkt : k = t
    · subst hkt
      rw [upd_same]
      simp only at hp
      split at hp <;> split at hp <;> simp_all <;> omega
    · rw [upd_ne _ _ hkt]
      simp only [hb k hkt] at hp
      omega
  · intro k hk x hx
    simp only [List.length_set]
    exact had k hk x hx
theorem clr_zero {m t : Nat} (h : clrB m t ≠ 0) : m ≠ 0 := by rintro rfl; simp [clrB] at h
theorem Inv.lose (h : Inv S) {t : Nat} (ht : t < 64) (i : Nat) : Inv (loseS S t i) := by
  unfold loseS
  cases he : S.ents[i]? with
  | none => exact h
  | some e =>
    simp only
    have hk := (h.keys e (List.mem_of_getElem? he)).2.2.2
    by_cases hb : e.mask.testBit t = true
    · rw [if_pos hb]
      refine h.remask ht he (clrB_lt hk) (fun hne => h.own i e he (clr_zero hne)) (fun k hkt => ?_) ?_ h.added
      · rw [clrB_bit hk ht, decide_eq_false (Ne.symm hkt)]; simp
      · rw [clrB_bit hk ht]; simp [hb]
    · rw [if_neg hb]; exact h
def gainS (S : ArS) (t i : Nat) : ArS := match S.ents[i]? with
  | some e => { S with ents := S.ents.set i { e with mask := setB e.mask t }, count := upd S.count t (S.count t + 1), added := upd S.added t (S.added t ++ [(i : Int)]) }
  | none => S
theorem Inv.gain (h : Inv S) {t : Nat} (ht : t < 64) {i : Nat} {e : EntD} (he : S.ents[i]? = some e) (hb : e.mask.testBit t = false) (h2 : 2 ≤ i) (hx : S.idx e.key = some (i : Int)) : Inv (gainS S t i) := by
  unfold gainS
  rw [he]
  have hk := (h.keys e (List.mem_of_getElem? he)).2.2.2
  refine h.remask ht he (setB_lt hk ht) (fun _ => ⟨h2, hx⟩) (fun k hkt => ?_) ?_ (fun k hk' x hxx => ?_)
  · rw [setB_bit, decide_eq_false (Ne.symm hkt)]; simp
  · rw [setB_bit]; simp [hb]
  · by_cases hkt : k = t
    · subst hkt
      rw [upd_same] at hxx
      rcases List.mem_append.1 hxx with h1 | h1
      · exact h.added k hk' x h1
      · rw [List.mem_singleton] at h1
        exact ⟨i, h1, h2, (List.getElem?_eq_some_iff.1 he).1⟩
    · rw [upd_ne _ _ hkt] at hxx
      exact h.added k hk' x hxx
theorem Inv.mark (h : Inv S) (t : Nat) : Inv { S with added := upd S.added t [] } :=
  ⟨h.room, h.zero, h.part, h.full, h.cnt, h.idx, h.own, h.keys, h.nodup, h.free, h.count, fun k hk x hx => by
    by_cases hkt : k = t
    · subst hkt; simp [upd_same] at hx
    · simp only [upd_ne _ _ hkt] at hx; exact h.added k hk x hx⟩
theorem Inv.quota (h : Inv S) (q : Nat → Int) : Inv { S with quota := q } := ⟨h.room, h.zero, h.part, h.full, h.cnt, h.idx, h.own, h.keys, h.nodup, h.free, h.count, h.added⟩
theorem Inv.live (h : Inv S) (q : Int) : Inv { S with live := q } := ⟨h.room, h.zero, h.part, h.full, h.cnt, h.idx, h.own, h.keys, h.nodup, h.free, h.count, h.added⟩
/-- What take does: a number that is free, or a new one. -/
def TakeR (S : ArS) (i : Nat) (S1 : ArS) : Prop :=
  (∃ fr, List.Perm ((i : Int) :: fr) S.free ∧ S1 = { S with live := S.live + 1, free := fr }) ∨ (S.free = [] ∧ i = S.ents.length ∧ S1 = { S with live := S.live + 1, ents := S.ents ++ [zeroE] })
def newS (S : ArS) (i : Nat) (k : KeyA) (lv va : Int) : ArS := { S with ents := S.ents.set i ⟨k, lv, va, 0⟩, idx := fun k' => if k' = k then some (i : Int) else S.idx k', size := S.size + 1 }
theorem Inv.idx_of (h : Inv S) {i : Nat} {e : EntD} (he : S.ents[i]? = some e) {k : KeyA} (hk : S.idx k = some (i : Int)) : e.key = k := by
  obtain ⟨j, e', h1, h2, h3, h4⟩ := h.idx k _ hk
  have : j = i := by omega
  subst this
  rw [he] at h3; cases h3; exact h4
theorem Inv.made_of (h : Inv S) {i : Nat} {S1 : ArS} {k : KeyA} {lv va : Int} (hE : ∀ j, j ≠ i → S1.ents[j]? = S.ents[j]?) (hi : S1.ents[i]? = some zeroE) (h2 : 2 ≤ i) (hno : ∀ k, S.idx k ≠ some (i : Int)) (hin : inIdx S i = false)
    (hlen : S1.ents.length + S.free.length = S.ents.length + S1.free.length + 1) (hfull : (S1.ents.length : Int) ≤ 2 + S.room) (hcn : S.size = (List.range S1.ents.length).countP (inIdx S))
    (hnd : S1.free.Nodup) (hfr : ∀ x ∈ S1.free, x ∈ S.free ∧ x ≠ i) (hc : ∀ t, bitC S1.ents t = bitC S.ents t) (hr : S1.room = S.room) (hix : S1.idx = S.idx) (hsz : S1.size = S.size) (hct : S1.count = S.count) (hmem : ∀ e ∈ S1.ents, e ∈ S.ents ∨ e = zeroE)
    (had : S1.added = S.added) (hle : S.ents.length ≤ S1.ents.length) (hk : k.ok) (hn : S.idx k = none) (hlv : 0 ≤ lv ∧ lv ≤ 44) : Inv (newS S1 i k lv va) := by
  have hil := (List.getElem?_eq_some_iff.1 hi).1
  have hg : ∀ j, (S1.ents.set i ⟨k, lv, va, 0⟩)[j]? = if j = i then some ⟨k, lv, va, 0⟩ else S.ents[j]? := by
    intro j
    by_cases hj : j = i
    · subst hj; rw [if_pos rfl]; exact set_some hi
    · rw [if_neg hj, List.getElem?_set_ne (Ne.symm hj)]; exact hE j hj
  refine ⟨by show 0 ≤ S1.room ∧ S1.room ≤ 200000; rw [hr]; exact h.room, ?_, ?_, ?_, ?_, ?_, ?_, ?_, hnd, ?_, ?_, ?_⟩
  · simp only [newS, hg]
    rw [if_neg (by omega), if_neg (by omega)]; exact h.zero
  · simp only [newS, List.length_set]
    have := h.part
    rw [hsz]; omega
  · simp only [newS, List.length_set, hr]; exact hfull
  · show S1.size + 1 = (List.range (S1.ents.set i ⟨k, lv, va, 0⟩).length).countP (inIdx (newS S1 i k lv va))
    rw [List.length_set, hsz, hcn]
    show _ = (List.range S1.ents.length).countP (inIdx (newS S1 i k lv va))
    symm
    refine countP_flip (i := i) hil hin ?_ fun j hj hne => ?_
    · rw [inIdx_eq (S := newS S1 i k lv va) (e := ⟨k, lv, va, 0⟩) ((hg i).trans (if_pos rfl))]
      simp [newS]
    · refine (inIdx_same (by simp only [newS, hg]; rw [if_neg hne]) fun e hj => ?_).symm
      simp only [newS, hix]
      by_cases hek : e.key = k
      · rw [if_pos hek, hek, hn]
        have : ¬ ((i : Int) = (j : Int)) := by omega
        simp [this]
      · rw [if_neg hek]
  · intro k' id hk'
    simp only [newS, hix] at hk'
    simp only [newS, hg]
    by_cases hkk : k' = k
    · rw [if_pos hkk] at hk'; cases hk'
      exact ⟨i, _, rfl, h2, if_pos rfl, hkk.symm⟩
    · rw [if_neg hkk] at hk'
      obtain ⟨j, e', h1, h3, h4, h5⟩ := h.idx k' id hk'
      have hji : j ≠ i := by rintro rfl; exact hno k' (h1 ▸ hk')
      exact ⟨j, e', h1, h3, by rw [if_neg hji]; exact h4, h5⟩
  · intro j e' hj hne
    simp only [newS, hg] at hj
    simp only [newS, hix]
    by_cases hji : j = i
    · rw [if_pos hji] at hj; cases hj; exact absurd rfl hne
    · rw [if_neg hji] at hj
      obtain ⟨h3, h4⟩ := h.own j e' hj hne
      refine ⟨h3, ?_⟩
      have : e'.key ≠ k := by rintro rfl; rw [hn] at h4; cases h4
      rw [if_neg this]; exact h4
  · intro e' he'
    rcases List.mem_or_eq_of_mem_set he' with h1 | h1
    · rcases hmem e' h1 with h1 | h1
      · exact h.keys e' h1
      · rw [h1]; exact zero_ok
    · rw [h1]; exact ⟨hk, hlv.1, hlv.2, Nat.zero_lt_succ _⟩
  · intro x hx
    obtain ⟨hx1, hx2⟩ := hfr x hx
    obtain ⟨j, h1, h3, h4, h5⟩ := h.free x hx1
    have hji : j ≠ i := by rintro rfl; exact hx2 h1
    refine ⟨j, h1, h3, by simp only [newS, hg]; rw [if_neg hji]; exact h4, fun k' => ?_⟩
    simp only [newS, hix]
    by_cases hkk : k' = k
    · rw [if_pos hkk]; intro e; have := Option.some.inj e; exact hx2 this.symm
    · rw [if_neg hkk]; exact h5 k'
  · intro t ht
    have hp := countP_put (fun e : EntD => e.mask.testBit t) S1.ents i zeroE ⟨k, lv, va, 0⟩ hi
    have hc1 := hc t
    have hc2 := h.count t ht
    simp only [newS, hct]
    unfold bitC at hc1 hc2 ⊢
    simp [zeroE] at hp
    rw [hp, hc1]; exact hc2
  · intro t ht x hx
    simp only [newS, had] at hx
    obtain ⟨j, h1, h3, h4⟩ := h.added t ht x hx
    exact ⟨j, h1, h3, by simp only [newS, List.length_set]; omega⟩
theorem Inv.made (h : Inv S) {i : Nat} {S1 : ArS} (ht : TakeR S i S1) {k : KeyA} {lv va : Int} (hk : k.ok) (hn : S.idx k = none) (hlv : 0 ≤ lv ∧ lv ≤ 44) (hr : (S.size : Int) < S.room) :
    Inv (newS S1 i k lv va) ∧ S1.ents[i]? = some zeroE ∧ 2 ≤ i := by
  rcases ht with ⟨fr, hp, rfl⟩ | ⟨hf, hi, rfl⟩
  · have hx : (i : Int) ∈ S.free := hp.subset (List.mem_cons_self ..)
    obtain ⟨j, h1, h2, h3, h4⟩ := h.free _ hx
    have : j = i := by omega
    subst this
    have hnd := hp.nodup_iff.2 h.nodup
    rw [List.nodup_cons] at hnd
    have hlen := hp.length_eq
    refine ⟨h.made_of (fun _ _ => rfl) h3 h2 h4 ?_ ?_ h.full h.cnt hnd.2 (fun x hx => ⟨hp.subset (List.mem_cons_of_mem _ hx), fun e => hnd.1 (e ▸ hx)⟩) (fun _ => rfl) rfl rfl rfl rfl (fun e he => .inl he) rfl (Nat.le_refl _) hk hn hlv, h3, h2⟩
    · unfold inIdx; rw [h3]; simp [h4]
    · simp only [List.length_cons] at hlen ⊢; omega
  · subst hi
    have hno : ∀ k, S.idx k ≠ some (S.ents.length : Int) := fun k e => by
      obtain ⟨j, e', h1, h2, h3, h4⟩ := h.idx _ _ e
      have := (List.getElem?_eq_some_iff.1 h3).1
      omega
    have hz : (S.ents ++ [zeroE])[S.ents.length]? = some zeroE := by simp
    have hin : inIdx S S.ents.length = false := by unfold inIdx; simp
    refine ⟨h.made_of (fun j hj => ?_) hz h.len hno hin ?_ ?_ ?_ (by rw [hf]; exact List.nodup_nil) (fun x hx => by simp only [hf] at hx; cases hx) (fun t => ?_) rfl rfl rfl rfl (fun e he => ?_) rfl (by simp) hk hn hlv, hz, h.len⟩
    · by_cases hl : j < S.ents.length
      · rw [List.getElem?_append_left hl]
      · rw [List.getElem?_eq_none (by simp; omega), List.getElem?_eq_none (by omega)]
    · simp [hf]
    · have := h.part; rw [hf] at this; simp at this; simp; omega
    · simp only [List.length_append, List.length_cons, List.length_nil]
      rw [List.range_succ, List.countP_append]
      have := h.cnt
      simp [hin]; omega
    · unfold bitC; rw [List.countP_append]; simp [zeroE]
    · rcases List.mem_append.1 he with h1 | h1
      · exact .inl h1
      · exact .inr (List.mem_singleton.1 h1)
def killS (S : ArS) (i : Nat) (k : KeyA) (fr : List Int) : ArS := { S with ents := S.ents.set i zeroE, idx := fun k' => if k' = k then none else S.idx k', size := S.size - 1, free := fr }
theorem Inv.kill (h : Inv S) {i : Nat} {e : EntD} (he : S.ents[i]? = some e) (h2 : 2 ≤ i) (hm : e.mask = 0) (hx : S.idx e.key = some (i : Int)) {fr : List Int} (hp : List.Perm fr (S.free ++ [(i : Int)])) : Inv (killS S i e.key fr) ∧ 0 < S.size := by
  have hil := (List.getElem?_eq_some_iff.1 he).1
  have hg : ∀ j, (S.ents.set i zeroE)[j]? = if j = i then some zeroE else S.ents[j]? := by
    intro j
    by_cases hj : j = i
    · subst hj; rw [if_pos rfl]; exact set_some he
    · rw [if_neg hj, List.getElem?_set_ne (Ne.symm hj)]
  have hfl := hp.length_eq
  simp only [List.length_append, List.length_cons, List.length_nil] at hfl
  have hcount : (List.range S.ents.length).countP (inIdx S) = (List.range S.ents.length).countP (inIdx (killS S i e.key fr)) + 1 := by
    refine countP_flip (i := i) hil ?_ ?_ fun j hj hne => ?_
    · refine inIdx_no fun k' => ?_
      simp only [killS]
      by_cases hkk : k' = e.key
      · rw [if_pos hkk]; intro e2; cases e2
      · rw [if_neg hkk]; intro e2; exact hkk (h.idx_of he e2).symm
    · rw [inIdx_eq he]; simp [hx]
    · refine inIdx_same (by simp only [killS, hg]; rw [if_neg hne]) fun e' hj => ?_
      simp only [killS]
      by_cases hek : e'.key = e.key
      · rw [if_pos hek, hek, hx]
        have : ¬ ((i : Int) = (j : Int)) := by omega
        simp [this]
      · rw [if_neg hek]
  have hc0 := h.cnt
  have hpos : 0 < S.size := by omega
  refine ⟨⟨h.room, ?_, ?_, ?_, ?_, ?_, ?_, ?_, ?_, ?_, ?_, ?_⟩, hpos⟩
  · simp only [killS, hg]
    rw [if_neg (by omega), if_neg (by omega)]; exact h.zero
  · simp only [killS, List.length_set]
    have := h.part
    omega
  · simp only [killS, List.length_set]; exact h.full
  · show S.size - 1 = (List.range (S.ents.set i zeroE).length).countP _
    rw [List.length_set]
    omega
  · intro k' id hk'
    simp only [killS] at hk'
    simp only [killS, hg]
    by_cases hkk : k' = e.key
    · rw [if_pos hkk] at hk'; cases hk'
    · rw [if_neg hkk] at hk'
      obtain ⟨j, e', h1, h3, h4, h5⟩ := h.idx k' id hk'
      have hji : j ≠ i := by rintro rfl; rw [he] at h4; cases h4; exact hkk h5.symm
      exact ⟨j, e', h1, h3, by rw [if_neg hji]; exact h4, h5⟩
  · intro j e' hj hne
    simp only [killS, hg] at hj
    simp only [killS]
    by_cases hji : j = i
    · rw [if_pos hji] at hj; cases hj; exact absurd rfl hne
    · rw [if_neg hji] at hj
      obtain ⟨h3, h4⟩ := h.own j e' hj hne
      refine ⟨h3, ?_⟩
      have : e'.key ≠ e.key := by
        intro e2
        rw [e2, hx] at h4
        have := Option.some.inj h4; omega
      rw [if_neg this]; exact h4
  · intro e' he'
    rcases List.mem_or_eq_of_mem_set he' with h1 | h1
    · exact h.keys e' h1
    · rw [h1]; exact zero_ok
  · have hni : (i : Int) ∉ S.free := fun hmem => by
      obtain ⟨_, _, _, _, h5⟩ := h.free _ hmem
      exact h5 _ hx
    refine hp.nodup_iff.2 (List.nodup_append.2 ⟨h.nodup, by simp, fun a ha b hb => ?_⟩)
    rw [List.mem_singleton] at hb
    subst hb
    rintro rfl
    exact hni ha
  · intro x hxm
    have hxm := hp.subset hxm
    rcases List.mem_append.1 hxm with h1 | h1
    · obtain ⟨j, h3, h4, h5, h6⟩ := h.free x h1
      have hji : j ≠ i := by rintro rfl; exact h6 _ (h3 ▸ hx)
      refine ⟨j, h3, h4, by simp only [killS, hg]; rw [if_neg hji]; exact h5, fun k' => ?_⟩
      simp only [killS]
      by_cases hkk : k' = e.key
      · rw [if_pos hkk]; intro e2; cases e2
      · rw [if_neg hkk]; exact h6 k'
    · rw [List.mem_singleton] at h1
      subst h1
      refine ⟨i, rfl, h2, (hg i).trans (if_pos rfl), fun k' => ?_⟩
      simp only [killS]
      by_cases hkk : k' = e.key
      · rw [if_pos hkk]; intro e2; cases e2
      · rw [if_neg hkk]; intro e2; exact hkk (h.idx_of he e2).symm
  · intro t ht
    have hp := countP_put (fun e : EntD => e.mask.testBit t) S.ents i e zeroE he
    have hc2 := h.count t ht
    simp only [killS]
    unfold bitC at hc2 ⊢
    simp [zeroE, hm] at hp
    simp only [zeroE]
    rw [hp]; exact hc2
  · intro t ht x hx
    obtain ⟨j, h1, h3, h4⟩ := h.added t ht x hx
    exact ⟨j, h1, h3, by simp only [killS, List.length_set]; omega⟩
end
end Go.Proofs.Ytfoipadgicjcaaa
