/- The arena's greater doings, as relations: sweeping, giving, joining, noting. -/
import Derived.Test.YtfoipadgicjcaaaArInv
namespace Go.Proofs.Ytfoipadgicjcaaa
open Go.RowKit

inductive SwN (S : ArS) : Nat → ArS → Nat → Prop
  | start : SwN S 2 S 0
  | skip {i : Nat} {Si : ArS} {n : Nat} {e : EntD} : SwN S i Si n → Si.ents[i]? = some e → ¬ (e.mask = 0 ∧ Si.idx e.key = some (i : Int)) → SwN S (i + 1) Si n
  | kill {i : Nat} {Si : ArS} {n : Nat} {e : EntD} {fr : List Int} : SwN S i Si n → Si.ents[i]? = some e → e.mask = 0 → Si.idx e.key = some (i : Int) → List.Perm fr (Si.free ++ [(i : Int)]) → SwN S (i + 1) (killS Si i e.key fr) (n + 1)
structure SwF (S : ArS) (i : Nat) (Si : ArS) (n : Nat) : Prop where
  two : 2 ≤ i
  inv : Inv Si
  live : Si.live = S.live
  size : Si.size + n = S.size
  len : Si.ents.length = S.ents.length
  count : Si.count = S.count
  quota : Si.quota = S.quota
  added : Si.added = S.added
  room : Si.room = S.room
  clean : ∀ j e, j < i → Si.ents[j]? = some e → Si.idx e.key = some (j : Int) → e.mask ≠ 0
  less : ∀ k id, Si.idx k = some id → S.idx k = some id
  same : ∀ (j : Nat) e, S.ents[j]? = some e → (e.mask ≠ 0 ∨ Si.idx e.key = some (j : Int)) → Si.ents[j]? = some e ∧ Si.idx e.key = S.idx e.key
theorem SwN.facts {S : ArS} (hI : Inv S) {i : Nat} {Si : ArS} {n : Nat} (h : SwN S i Si n) : SwF S i Si n := by
  induction h with
  | start =>
    refine ⟨Nat.le_refl _, hI, rfl, rfl, rfl, rfl, rfl, rfl, rfl, fun j e hj he hx => ?_, fun _ _ h => h, fun j e he _ => ⟨he, rfl⟩⟩
    obtain ⟨k, _, h1, h2, _, _⟩ := hI.idx _ _ hx
    omega
  | @skip i Si n e h he hx ih =>
    refine ⟨by have := ih.two; omega, ih.inv, ih.live, ih.size, ih.len, ih.count, ih.quota, ih.added, ih.room, fun j e' hj he' hx' => ?_, ih.less, ih.same⟩
    by_cases hji : j = i
    · subst hji
      rw [he] at he'; cases he'
      exact fun hm => hx ⟨hm, hx'⟩
    · exact ih.clean j e' (by omega) he' hx'
  | @kill i Si n e fr h he hm hx hp ih =>
    have h2 := ih.two
    obtain ⟨hk, hpos⟩ := ih.inv.kill he h2 hm hx hp
    have hg : ∀ j, (Si.ents.set i zeroE)[j]? = if j = i then some zeroE else Si.ents[j]? := by
      intro j
      by_cases hj : j = i
      · subst hj; rw [if_pos rfl]; exact set_some he
      · rw [if_neg hj, List.getElem?_set_ne (Ne.symm hj)]
    refine ⟨by omega, hk, ih.live, ?_, ?_, ih.count, ih.quota, ih.added, ih.room, fun j e' hj he' hx' => ?_, fun k id hkk => ?_, fun j e' he' hd => ?_⟩
    · have := ih.size
      show Si.size - 1 + (n + 1) = S.size
      omega
    · show (Si.ents.set i zeroE).length = _
      rw [List.length_set]; exact ih.len
    · simp only [killS, hg] at he' hx'
      by_cases hji : j = i
      · rw [if_pos hji] at he'; cases he'
        subst hji
        by_cases hz : zeroE.key = e.key
        · rw [if_pos hz] at hx'; cases hx'
        · rw [if_neg hz] at hx'
          exact absurd (ih.inv.idx_of he hx').symm hz
      · rw [if_neg hji] at he'
        by_cases hz : e'.key = e.key
        · rw [if_pos hz] at hx'; cases hx'
        · rw [if_neg hz] at hx'
          exact ih.clean j e' (by omega) he' hx'
    · simp only [killS] at hkk
      by_cases hz : k = e.key
      · rw [if_pos hz] at hkk; cases hkk
      · rw [if_neg hz] at hkk; exact ih.less k id hkk
    · simp only [killS] at hd
      have hd2 : e'.mask ≠ 0 ∨ Si.idx e'.key = some (j : Int) := by
        rcases hd with hd | hd
        · exact .inl hd
        · by_cases hz : e'.key = e.key
          · rw [if_pos hz] at hd; cases hd
          · rw [if_neg hz] at hd; exact .inr hd
      obtain ⟨h3, h4⟩ := ih.same j e' he' hd2
      have hji : j ≠ i := by
        rintro rfl
        rw [he] at h3; cases h3
        rcases hd with hd | hd
        · exact hd hm
        · rw [if_pos rfl] at hd; cases hd
      simp only [killS, hg]
      rw [if_neg hji]
      refine ⟨h3, ?_⟩
      by_cases hz : e'.key = e.key
      · rcases hd with hd | hd
        · have h5 := (ih.inv.own j e' h3 hd).2
          rw [hz, hx] at h5
          have := Option.some.inj h5; omega
        · rw [if_pos hz] at hd; cases hd
      · rw [if_neg hz]; exact h4
/-- What Sweep does, and what it tells. -/
def SweepR (S S' : ArS) (n : Nat) : Prop := ∃ S1, SwN S S.ents.length S1 n ∧ S' = { S1 with live := S.live - n }
theorem SweepR.inv {S S' : ArS} {n : Nat} (hI : Inv S) (hl : S.live = S.size) (h : SweepR S S' n) : Inv S' ∧ S'.live = S'.size := by
  obtain ⟨S1, h1, rfl⟩ := h
  have hf := h1.facts hI
  refine ⟨hf.inv.live _, ?_⟩
  have := hf.size
  show S.live - n = (S1.size : Int)
  omega
theorem range_countP {α : Type} (p : α → Bool) : ∀ l : List α, (List.range l.length).countP (fun i => match l[i]? with | some e => p e | none => false) = l.countP p
  | [] => rfl
  | a :: l => by
    rw [List.length_cons, List.range_succ_eq_map, List.countP_cons, List.countP_cons, List.countP_map, ← range_countP p l]
    congr 1
/-- Behind a sweep each thing is somebody's. -/
theorem SweepR.swept {S S' : ArS} {n : Nat} (hI : Inv S) (h : SweepR S S' n) : S'.size ≤ S'.ents.countP (fun e => e.mask != 0) := by
  obtain ⟨S1, h1, rfl⟩ := h
  have hf := h1.facts hI
  show S1.size ≤ S1.ents.countP (fun e => e.mask != 0)
  rw [hf.inv.cnt, ← range_countP (fun e : EntD => e.mask != 0) S1.ents]
  refine List.countP_mono_left fun i hi hx => ?_
  have hi := List.mem_range.1 hi
  unfold inIdx at hx
  cases he : S1.ents[i]? with
  | none => rw [he] at hx; cases hx
  | some e =>
    rw [he] at hx
    simp only [he]
    have := hf.clean i e (by rw [← hf.len]; exact hi) he (of_decide_eq_true hx)
    simp [this]
/-- A thing is not a tenant's own. -/
def NotHis (S : ArS) (t : Nat) (k : KeyA) : Prop := ∀ (i : Nat) e, S.idx k = some (i : Int) → S.ents[i]? = some e → e.mask.testBit t = false
/-- What give does, and what it tells. -/
inductive GiveR (S : ArS) (t : Nat) (k : KeyA) (lv va : Int) : Int → Int → ArS → Prop
  | has (i : Nat) (e : EntD) : S.idx k = some (i : Int) → S.ents[i]? = some e → e.mask.testBit t = true → GiveR S t k lv va i 0 S
  | much : NotHis S t k → S.quota t ≤ S.count t → GiveR S t k lv va 0 9 S
  | joins (i : Nat) (e : EntD) : S.idx k = some (i : Int) → S.ents[i]? = some e → e.mask.testBit t = false → S.count t < S.quota t → GiveR S t k lv va i 0 (gainS S t i)
  | full (S0 : ArS) (n : Nat) : S.idx k = none → S.count t < S.quota t → S.room ≤ S.live → SweepR S S0 n → S0.room ≤ S0.live → GiveR S t k lv va 0 5 S0
  | makes (S0 S1 : ArS) (i : Nat) : S.idx k = none → S.count t < S.quota t → (S.live < S.room ∧ S0 = S ∨ S.room ≤ S.live ∧ ∃ n, SweepR S S0 n) → S0.live < S0.room → TakeR S0 i S1 → GiveR S t k lv va i 0 (gainS (newS S1 i k lv va) t i)
theorem TakeR.keeps {S S1 : ArS} {i : Nat} (h : TakeR S i S1) : S1.live = S.live + 1 ∧ S1.size = S.size ∧ S1.idx = S.idx ∧ S1.count = S.count ∧ S1.quota = S.quota ∧ S1.added = S.added ∧ S1.room = S.room := by
  rcases h with ⟨fr, _, rfl⟩ | ⟨_, _, rfl⟩ <;> exact ⟨rfl, rfl, rfl, rfl, rfl, rfl, rfl⟩
theorem SweepR.gone {S S' : ArS} {n : Nat} (hI : Inv S) (h : SweepR S S' n) {k : KeyA} (hk : S.idx k = none) : S'.idx k = none := by
  obtain ⟨S1, h1, rfl⟩ := h
  have hf := h1.facts hI
  show S1.idx k = none
  cases hx : S1.idx k with
  | none => rfl
  | some id => rw [hf.less k id hx] at hk; cases hk
theorem GiveR.inv {S : ArS} {t : Nat} {k : KeyA} {lv va r x : Int} {S' : ArS} (h : GiveR S t k lv va r x S') (ht : t < 64) (hI : Inv S) (hl : S.live = S.size) (hk : k.ok) (hlv : 0 ≤ lv ∧ lv ≤ 44) : Inv S' ∧ S'.live = S'.size := by
  cases h with
  | has => exact ⟨hI, hl⟩
  | much => exact ⟨hI, hl⟩
  | joins i e hx he hb hq =>
    obtain ⟨j, e', h1, h2, h3, h4⟩ := hI.idx _ _ hx
    have : j = i := by omega
    subst this
    rw [he] at h3; cases h3
    refine ⟨hI.gain ht he hb h2 (h4 ▸ hx), ?_⟩
    unfold gainS; rw [he]; exact hl
  | full S0 n hx hq hr hs hr2 => exact hs.inv hI hl
  | makes S0 S1 i hx hq hs hr ht2 =>
    have h0 : Inv S0 ∧ S0.live = S0.size ∧ S0.idx k = none := by
      rcases hs with ⟨_, rfl⟩ | ⟨_, n, hs⟩
      · exact ⟨hI, hl, hx⟩
      · exact ⟨(hs.inv hI hl).1, (hs.inv hI hl).2, hs.gone hI hx⟩
    obtain ⟨h1, h2, h3⟩ := h0
    obtain ⟨g1, g2, g3⟩ := h1.made (va := va) ht2 hk h3 hlv (by omega)
    have he : (newS S1 i k lv va).ents[i]? = some ⟨k, lv, va, 0⟩ := set_some g2
    refine ⟨g1.gain ht he (by simp) g3 (by simp [newS]), ?_⟩
    obtain ⟨k1, k2, k3, _⟩ := ht2.keeps
    unfold gainS; rw [he]
    show S1.live = ((S1.size + 1 : Nat) : Int)
    rw [k1, k2]; omega
end Go.Proofs.Ytfoipadgicjcaaa
