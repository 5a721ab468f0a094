/- ArenaAlone: what an arena holds, told apart from its numbers. -/
import Derived.Test.YtfoipadgicjcaaaTree
import Derived.Test.YtfoipadgicjcaaaRoomL
namespace Go.Proofs.Ytfoipadgicjcaaa
open Go.RowKit

/-- Two arenas in which all things have the same numbers. -/
structure Twin (S S' : ArS) : Prop where
  idx : S'.idx = S.idx
  ents : ∀ (j : Nat) e, S.ents[j]? = some e → ∃ e', S'.ents[j]? = some e' ∧ e'.key = e.key ∧ e'.level = e.level ∧ e'.value = e.value
  back : ∀ (j : Nat) e', S'.ents[j]? = some e' → ∃ e, S.ents[j]? = some e ∧ e'.key = e.key ∧ e'.level = e.level ∧ e'.value = e.value
theorem Twin.symm {S S' : ArS} (h : Twin S S') : Twin S' S :=
  ⟨h.idx.symm, fun j e he => by obtain ⟨e', h1, h2, h3, h4⟩ := h.back j e he; exact ⟨e', h1, h2.symm, h3.symm, h4.symm⟩, fun j e he => by obtain ⟨e', h1, h2, h3, h4⟩ := h.ents j e he; exact ⟨e', h1, h2.symm, h3.symm, h4.symm⟩⟩
theorem Twin.stays {S S' : ArS} (h : Twin S S') : Stays (fun _ => True) S S' := fun i e he hx _ => by
  obtain ⟨e', h1, h2, h3, h4⟩ := h.ents i e he
  exact ⟨e', h1, h2, h3, h4, by rw [h.idx]; exact hx⟩
theorem Twin.den {S S' : ArS} (h : Twin S S') {id : Int} {x : Tree} : Den S' id x ↔ Den S id x := ⟨Den.stays h.symm.stays, Den.stays h.stays⟩
theorem Twin.denT {S S' : ArS} (h : Twin S S') {i : Nat} {x : Thing} : DenT S' i x ↔ DenT S i x := ⟨DenT.stays h.symm.stays, DenT.stays h.stays⟩
theorem Twin.remask {S : ArS} {i : Nat} {e : EntD} (he : S.ents[i]? = some e) (m : Nat) (c : Nat → Int) (ad : Nat → List Int) : Twin S { S with ents := S.ents.set i { e with mask := m }, count := c, added := ad } := by
  have hi := (List.getElem?_eq_some_iff.1 he).1
  have hg : ∀ j, (S.ents.set i { e with mask := m })[j]? = if j = i then some { e with mask := m } else S.ents[j]? := by
    intro j
    by_cases hj : j = i
    · subst hj; rw [if_pos rfl]; exact set_some he
    · rw [if_neg hj, List.getElem?_set_ne (Ne.symm hj)]
  refine ⟨rfl, fun j e1 h1 => ?_, fun j e1 h1 => ?_⟩
  · by_cases hj : j = i
    · subst hj
      rw [he] at h1; cases h1
      exact ⟨_, (hg j).trans (if_pos rfl), rfl, rfl, rfl⟩
    · exact ⟨e1, ((hg j).trans (if_neg hj)).trans h1, rfl, rfl, rfl⟩
  · have h1 : (S.ents.set i { e with mask := m })[j]? = some e1 := h1
    rw [hg] at h1
    by_cases hj : j = i
    · subst hj
      rw [if_pos rfl] at h1; cases h1
      exact ⟨e, he, rfl, rfl, rfl⟩
    · rw [if_neg hj] at h1; exact ⟨e1, h1, rfl, rfl, rfl⟩

/-- What the tenants have, in plain words. -/
structure Rel (S : ArS) (A : Nat → Abs) : Prop where
  inv : Inv S
  live : S.live = S.size
  good : ∀ (i : Nat) e, S.ents[i]? = some e → S.idx e.key = some (i : Int) → (∃ x, DenT S i x) ∧ (e.key.kind = 1 → e.value = e.key.a0)
  own : ∀ t, t < 64 → ∀ x, x ∈ (A t).have_ ↔ ∃ (i : Nat) (e : EntD), S.ents[i]? = some e ∧ e.mask.testBit t = true ∧ DenT S i x
  add1 : ∀ t, t < 64 → ∀ id ∈ S.added t, ∃ (i : Nat) (x : Thing), id = i ∧ DenT S i x ∧ x ∈ (A t).added
  add2 : ∀ t, t < 64 → ∀ x ∈ (A t).added, ∃ i : Nat, (i : Int) ∈ S.added t ∧ DenT S i x
  ok : ∀ t, t < 64 → AOk (A t)

theorem nodup_map {α β : Type} {f : α → β} : ∀ {l : List α}, (∀ a ∈ l, ∀ b ∈ l, f a = f b → a = b) → l.Nodup → (l.map f).Nodup
  | [], _, _ => List.nodup_nil
  | a :: l, h, hn => by
    rw [List.nodup_cons] at hn
    rw [List.map_cons, List.nodup_cons]
    refine ⟨fun hm => ?_, nodup_map (fun x hx y hy => h x (List.mem_cons_of_mem _ hx) y (List.mem_cons_of_mem _ hy)) hn.2⟩
    obtain ⟨b, hb, e⟩ := List.mem_map.1 hm
    have := h b (List.mem_cons_of_mem _ hb) a (List.mem_cons_self ..) e
    subst this
    exact hn.1 hb
section
variable {S S' : ArS} {A : Nat → Abs}
theorem Rel.count (h : Rel S A) {t : Nat} (ht : t < 64) : S.count t = ((A t).have_.length : Int) := by
  rw [h.inv.count t ht]
  unfold bitC
  rw [← range_countP (fun e : EntD => e.mask.testBit t) S.ents, List.countP_eq_length_filter]
  generalize hL : (List.range S.ents.length).filter _ = L
  have hmem : ∀ i, i ∈ L ↔ ∃ e, S.ents[i]? = some e ∧ e.mask.testBit t = true := by
    intro i
    rw [← hL, List.mem_filter, List.mem_range]
    constructor
    · rintro ⟨h1, h2⟩
      cases he : S.ents[i]? with
      | none => rw [he] at h2; cases h2
      | some e => rw [he] at h2; exact ⟨e, rfl, h2⟩
    · rintro ⟨e, h1, h2⟩
      exact ⟨(List.getElem?_eq_some_iff.1 h1).1, by rw [h1]; exact h2⟩
  have hnd : L.Nodup := by rw [← hL]; exact List.Pairwise.filter _ List.nodup_range
  have key1 : ∀ x : Thing, ∃ i : Nat, x ∈ (A t).have_ → i ∈ L ∧ DenT S i x := by
    intro x
    by_cases hx : x ∈ (A t).have_
    · obtain ⟨i, e, h1, h2, h3⟩ := (h.own t ht x).1 hx
      exact ⟨i, fun _ => ⟨(hmem i).2 ⟨e, h1, h2⟩, h3⟩⟩
    · exact ⟨0, fun h => absurd h hx⟩
  have key2 : ∀ i : Nat, ∃ x : Thing, i ∈ L → x ∈ (A t).have_ ∧ DenT S i x := by
    intro i
    by_cases hi : i ∈ L
    · obtain ⟨e, h1, h2⟩ := (hmem i).1 hi
      obtain ⟨⟨x, hx⟩, _⟩ := h.good i e h1 (h.inv.own i e h1 (testBit_ne h2)).2
      exact ⟨x, fun _ => ⟨(h.own t ht x).2 ⟨i, e, h1, h2, hx⟩, hx⟩⟩
    · exact ⟨.note .dead 0 0, fun h => absurd h hi⟩
  obtain ⟨g, hg⟩ := Classical.axiomOfChoice key1
  obtain ⟨f, hf⟩ := Classical.axiomOfChoice key2
  have n1 : ((A t).have_.map g).Nodup := nodup_map (fun a ha b hb e => by
    have h1 := (hg a ha).2
    have h2 := (hg b hb).2
    rw [e] at h1
    exact DenT.fn h.inv h1 h2) (h.ok t ht).nodup
  have n2 : (L.map f).Nodup := nodup_map (fun a ha b hb e => by
    have h1 := (hf a ha).2
    have h2 := (hf b hb).2
    rw [e] at h1
    exact DenT.inj h1 h2) hnd
  have l1 := List.Nodup.length_le_of_subset n1 (l₂ := L) fun i hi => by obtain ⟨x, hx, rfl⟩ := List.mem_map.1 hi; exact (hg x hx).1
  have l2 := List.Nodup.length_le_of_subset n2 (l₂ := (A t).have_) fun x hx => by obtain ⟨i, hi, rfl⟩ := List.mem_map.1 hx; exact (hf i hi).1
  rw [List.length_map] at l1 l2
  have : L.length = (A t).have_.length := Nat.le_antisymm l2 l1
  rw [this]

/-- A key that names a thing. -/
def KeyT (S : ArS) (k : KeyA) (lv : Int) : Thing → Prop
  | .sq a b c d => k.kind = 0 ∧ lv = a.lvl + 1 ∧ Den S k.a0 a ∧ Den S k.a1 b ∧ Den S k.a2 c ∧ Den S k.a3 d
  | .note x r j => k.kind = 1 ∧ k.a1 = r ∧ k.a2 = j ∧ k.a3 = 0 ∧ Den S k.a0 x
theorem DenT.sqE {i : Nat} {a b c d : Tree} (h : DenT S i (.sq a b c d)) : ∃ e, S.ents[i]? = some e ∧ S.idx e.key = some (i : Int) ∧ e.key.kind = 0 ∧ e.level = a.lvl + 1 ∧ Den S e.key.a0 a ∧ Den S e.key.a1 b ∧ Den S e.key.a2 c ∧ Den S e.key.a3 d := by
  simp only [DenT, Den] at h
  obtain ⟨j, e, h1, h2, h3, h4, h5, h6⟩ := h
  have : j = i := by omega
  subst this
  exact ⟨e, h2, h3, h4, h5, h6⟩
theorem KeyT.key {k : KeyA} {lv : Int} {i : Nat} : ∀ {x : Thing}, KeyT S k lv x → DenT S i x → ∃ e, S.ents[i]? = some e ∧ e.key = k ∧ S.idx k = some (i : Int)
  | .sq .., h, hd => by
    obtain ⟨e, h2, h3, h4, h5, g0, g1, g2, g3⟩ := hd.sqE
    obtain ⟨k1, k2, k3, k4, k5, k6⟩ := h
    have : e.key = k := KeyA.ext (h4.trans k1.symm) (Den.inj g0 k3) (Den.inj g1 k4) (Den.inj g2 k5) (Den.inj g3 k6)
    exact ⟨e, h2, this, this ▸ h3⟩
  | .note .., h, hd => by
    obtain ⟨e, h4, h5, h6, h7, h8, h9, h10⟩ := hd
    obtain ⟨k1, k2, k3, k4, k5⟩ := h
    have : e.key = k := KeyA.ext (h6.trans k1.symm) (Den.inj h10 k5) (h7.trans k2.symm) (h8.trans k3.symm) (h9.trans k4.symm)
    exact ⟨e, h4, this, this ▸ h5⟩
theorem KeyT.of (hI : Inv S) {k : KeyA} {lv : Int} {i : Nat} {e : EntD} (he : S.ents[i]? = some e) (hk : e.key = k) : ∀ {x y : Thing}, KeyT S k lv x → DenT S i y → y = x
  | .sq .., .sq .., h, hd => by
    obtain ⟨e', h2, h3, h4, h5, g0, g1, g2, g3⟩ := hd.sqE
    rw [he] at h2; cases h2
    obtain ⟨k1, k2, k3, k4, k5, k6⟩ := h
    subst hk
    rw [Den.fn hI g0 k3, Den.fn hI g1 k4, Den.fn hI g2 k5, Den.fn hI g3 k6]
  | .sq .., .note .., h, hd => by
    obtain ⟨e', h4, h5, h6, _⟩ := hd
    rw [he] at h4; cases h4
    obtain ⟨k1, _⟩ := h
    subst hk; omega
  | .note .., .sq .., h, hd => by
    obtain ⟨e', h2, h3, h4, _⟩ := hd.sqE
    rw [he] at h2; cases h2
    obtain ⟨k1, _⟩ := h
    subst hk; omega
  | .note .., .note .., h, hd => by
    obtain ⟨e', h4, h5, h6, h7, h8, h9, h10⟩ := hd
    rw [he] at h4; cases h4
    obtain ⟨k1, k2, k3, k4, k5⟩ := h
    subst hk
    rw [Den.fn hI h10 k5, ← h7, ← h8, k2, k3]
/-- What give does, in plain words. -/
def aGive (A : Abs) (q : Int) (x : Thing) : Int × Abs :=
  if x ∈ A.have_ then (0, A) else if q ≤ (A.have_.length : Int) then (9, A) else (0, ⟨A.have_ ++ [x], A.added ++ [x]⟩)
theorem AOk.give {B : Abs} (h : AOk B) {x : Thing} (hx : x ∉ B.have_) (hk : kidsIn B.have_ x) : AOk ⟨B.have_ ++ [x], B.added ++ [x]⟩ := by
  have hr : restL ⟨B.have_ ++ [x], B.added ++ [x]⟩ = restL B := by
    unfold restL
    simp only
    rw [List.filter_append]
    have e1 : [x].filter (fun y => !decide (y ∈ B.added ++ [x])) = [] := by simp
    rw [e1, List.append_nil]
    refine List.filter_congr fun y hy => ?_
    have hyx : y ≠ x := fun e => hx (e ▸ hy)
    simp [hyx]
  refine ⟨?_, fun y hy => ?_, ?_, fun y hy => ?_⟩
  · refine List.nodup_append.2 ⟨h.nodup, by simp, fun a ha b hb => ?_⟩
    rw [List.mem_singleton] at hb
    subst hb
    rintro rfl
    exact hx ha
  · have hm : ∀ y ∈ B.have_, y ∈ B.have_ ++ [x] := fun y hy => List.mem_append_left _ hy
    rcases List.mem_append.1 hy with h1 | h1
    · exact kidsIn.mono hm (h.closed y h1)
    · rw [List.mem_singleton.1 h1]; exact kidsIn.mono hm hk
  · rw [hr]; exact h.rest
  · rcases List.mem_append.1 hy with h1 | h1
    · exact List.mem_append_left _ (h.added y h1)
    · exact List.mem_append_right _ h1
theorem Rel.gain (h : Rel S A) {t : Nat} (ht : t < 64) {i : Nat} {e : EntD} {x : Thing} (he : S.ents[i]? = some e) (hb : e.mask.testBit t = false) (hx : S.idx e.key = some (i : Int)) (hd : DenT S i x) (hk : kidsIn (A t).have_ x) :
    x ∉ (A t).have_ ∧ Twin S (gainS S t i) ∧ Rel (gainS S t i) (upd A t ⟨(A t).have_ ++ [x], (A t).added ++ [x]⟩) := by
  have h2 := h.inv.two hx
  have hno : x ∉ (A t).have_ := fun hm => by
    obtain ⟨j, e', h3, h4, h5⟩ := (h.own t ht x).1 hm
    have := DenT.inj hd h5
    subst this
    rw [he] at h3; cases h3
    rw [hb] at h4; cases h4
  have hI := h.inv.gain ht he hb h2 hx
  rw [gain_in he] at hI ⊢
  have tw : Twin S { S with ents := S.ents.set i { e with mask := setB e.mask t }, count := upd S.count t (S.count t + 1), added := upd S.added t (S.added t ++ [(i : Int)]) } := Twin.remask he _ _ _
  have hi := (List.getElem?_eq_some_iff.1 he).1
  have hg : ∀ j, (S.ents.set i { e with mask := setB e.mask t })[j]? = if j = i then some { e with mask := setB e.mask t } else S.ents[j]? := by
    intro j
    by_cases hj : j = i
    · subst hj; rw [if_pos rfl]; exact set_some he
    · rw [if_neg hj, List.getElem?_set_ne (Ne.symm hj)]
  refine ⟨hno, tw, hI, h.live, fun j e' h3 h4 => ?_, fun u hu y => ?_, fun u hu id hid => ?_, fun u hu y hy => ?_, fun u hu => ?_⟩
  · obtain ⟨e1, g1, g2, g3, g4⟩ := tw.back j e' h3
    obtain ⟨⟨y, hy⟩, q⟩ := h.good j e1 g1 (by rw [← g2]; exact h4)
    exact ⟨⟨y, tw.denT.2 hy⟩, fun q1 => by rw [g4, g2]; exact q (by rw [← g2]; exact q1)⟩
  · constructor
    · intro hy
      by_cases hut : u = t
      · subst hut
        rw [upd_same] at hy
        rcases List.mem_append.1 hy with h3 | h3
        · obtain ⟨j, e1, g1, g2, g3⟩ := (h.own u hu y).1 h3
          by_cases hj : j = i
          · subst hj
            rw [he] at g1; cases g1
            rw [hb] at g2; cases g2
          · exact ⟨j, e1, ((hg j).trans (if_neg hj)).trans g1, g2, tw.denT.2 g3⟩
        · rw [List.mem_singleton.1 h3]
          exact ⟨i, _, (hg i).trans (if_pos rfl), by simp [setB_bit], tw.denT.2 hd⟩
      · rw [upd_ne _ _ hut] at hy
        obtain ⟨j, e1, g1, g2, g3⟩ := (h.own u hu y).1 hy
        by_cases hj : j = i
        · subst hj
          rw [he] at g1; cases g1
          exact ⟨j, _, (hg j).trans (if_pos rfl), by rw [setB_bit, g2]; rfl, tw.denT.2 g3⟩
        · exact ⟨j, e1, ((hg j).trans (if_neg hj)).trans g1, g2, tw.denT.2 g3⟩
    · rintro ⟨j, e1, g1, g2, g3⟩
      have g5 := tw.denT.1 g3
      have g1 : (S.ents.set i { e with mask := setB e.mask t })[j]? = some e1 := g1
      rw [hg] at g1
      by_cases hj : j = i
      · subst hj
        rw [if_pos rfl] at g1; cases g1
        have g2 : (setB e.mask t).testBit u = true := g2
        rw [setB_bit] at g2
        by_cases hut : u = t
        · subst hut
          rw [upd_same, DenT.fn h.inv g5 hd]
          exact List.mem_append_right _ (List.mem_singleton.2 rfl)
        · rw [upd_ne _ _ hut]
          have : e.mask.testBit u = true := by simpa [Ne.symm hut] using g2
          exact (h.own u hu y).2 ⟨j, e, he, this, g5⟩
      · rw [if_neg hj] at g1
        have hm := (h.own u hu y).2 ⟨j, e1, g1, g2, g5⟩
        by_cases hut : u = t
        · subst hut; rw [upd_same]; exact List.mem_append_left _ hm
        · rw [upd_ne _ _ hut]; exact hm
  · by_cases hut : u = t
    · subst hut
      have hid : id ∈ upd S.added u (S.added u ++ [(i : Int)]) u := hid
      rw [upd_same] at hid ⊢
      rcases List.mem_append.1 hid with h3 | h3
      · obtain ⟨j, y, g1, g2, g3⟩ := h.add1 u hu id h3
        exact ⟨j, y, g1, tw.denT.2 g2, List.mem_append_left _ g3⟩
      · exact ⟨i, x, List.mem_singleton.1 h3, tw.denT.2 hd, List.mem_append_right _ (List.mem_singleton.2 rfl)⟩
    · have hid : id ∈ upd S.added t (S.added t ++ [(i : Int)]) u := hid
      rw [upd_ne _ _ hut] at hid ⊢
      obtain ⟨j, y, g1, g2, g3⟩ := h.add1 u hu id hid
      exact ⟨j, y, g1, tw.denT.2 g2, g3⟩
  · show ∃ j : Nat, (j : Int) ∈ upd S.added t (S.added t ++ [(i : Int)]) u ∧ _
    by_cases hut : u = t
    · subst hut
      rw [upd_same] at hy ⊢
      rcases List.mem_append.1 hy with h3 | h3
      · obtain ⟨j, g1, g2⟩ := h.add2 u hu y h3
        exact ⟨j, List.mem_append_left _ g1, tw.denT.2 g2⟩
      · rw [List.mem_singleton.1 h3]
        exact ⟨i, List.mem_append_right _ (List.mem_singleton.2 rfl), tw.denT.2 hd⟩
    · rw [upd_ne _ _ hut] at hy ⊢
      obtain ⟨j, g1, g2⟩ := h.add2 u hu y hy
      exact ⟨j, g1, tw.denT.2 g2⟩
  · by_cases hut : u = t
    · subst hut; rw [upd_same]; exact (h.ok u hu).give hno hk
    · rw [upd_ne _ _ hut]; exact h.ok u hu
end
end Go.Proofs.Ytfoipadgicjcaaa
