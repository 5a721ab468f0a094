/- ArenaAlone: what an arena holds, told apart from its numbers. · arena: New. · ArenaAlone: what making, losing and sweeping do, in plain words. · quad: the trees of sets of cells, in plain words. · quad: what a hand's work does to an arena, in plain words. · arena: Kids (at seats that have it). · quad: a hand in memory; join. · quad: kids, level, done of a hand. -/
import Derived.Carry
import Derived.Deep.RegionHeld3
import Derived.Test.YtgdijlpkbbfedaaZ2
import Derived.Test.YtgdijlpkbbfedaaZ3

namespace Go.Proofs.Ytgdijlpkbbfedaa
open Go.RowKit

/-- Two arenas in which all things have the same numbers. -/
structure Twin (S S' : ArS) : Prop where
  idx : S'.idx = S.idx
  ents : ∀ (j : Nat) e, S.ents[j]? = some e → ∃ e', S'.ents[j]? = some e' ∧ e'.key = e.key ∧ e'.level = e.level ∧ e'.value = e.value
  back : ∀ (j : Nat) e', S'.ents[j]? = some e' → ∃ e, S.ents[j]? = some e ∧ e'.key = e.key ∧ e'.level = e.level ∧ e'.value = e.value
theorem Twin.symm {S S' : ArS} (h : Twin S S') : Twin S' S :=
  ⟨h.idx.symm, fun j e he => by obtain ⟨e', h1, h2, h3, h4⟩ := h.back j e he; exact ⟨e', h1, h2.symm, h3.symm, h4.symm⟩, fun j e he => by obtain ⟨e', h1, h2, h3, h4⟩ := h.ents j e he; exact ⟨e', h1, h2.symm, h3.symm, h4.symm⟩⟩
theorem Twin.stays {S S' : ArS} (h : Twin S S') : Stays (fun _ => True) S S' := fun i e he hx _ => by
  obtain ⟨e', h1, h2, h3, h4⟩ := h.ents i e he
  exact ⟨e', h1, h2, h3, h4, by rw [h.idx]; exact hx⟩
theorem Twin.den {S S' : ArS} (h : Twin S S') {id : Int} {x : Tree} : Den S' id x ↔ Den S id x := ⟨Den.stays h.symm.stays, Den.stays h.stays⟩
theorem Twin.denT {S S' : ArS} (h : Twin S S') {i : Nat} {x : Thing} : DenT S' i x ↔ DenT S i x := ⟨DenT.stays h.symm.stays, DenT.stays h.stays⟩
theorem Twin.remask {S : ArS} {i : Nat} {e : EntD} (he : S.ents[i]? = some e) (m : Nat) (c : Nat → Int) (ad : Nat → List Int) : Twin S { S with ents := S.ents.set i { e with mask := m }, count := c, added := ad } := by
  have hi := (List.getElem?_eq_some_iff.1 he).1
  have hg : ∀ j, (S.ents.set i { e with mask := m })[j]? = if j = i then some { e with mask := m } else S.ents[j]? := by
    intro j
    by_cases hj : j = i
    · subst hj; rw [if_pos rfl]; exact set_some he
    · rw [if_neg hj, List.getElem?_set_ne (Ne.symm hj)]
  refine ⟨rfl, fun j e1 h1 => ?_, fun j e1 h1 => ?_⟩
  · by_cases hj : j = i
    · subst hj
      rw [he] at h1; cases h1
      exact ⟨_, (hg j).trans (if_pos rfl), rfl, rfl, rfl⟩
    · exact ⟨e1, ((hg j).trans (if_neg hj)).trans h1, rfl, rfl, rfl⟩
  · have h1 : (S.ents.set i { e with mask := m })[j]? = some e1 := h1
    rw [hg] at h1
    by_cases hj : j = i
    · subst hj
      rw [if_pos rfl] at h1; cases h1
      exact ⟨e, he, rfl, rfl, rfl⟩
    · rw [if_neg hj] at h1; exact ⟨e1, h1, rfl, rfl, rfl⟩

/-- What the tenants have, in plain words. -/
structure Rel (S : ArS) (A : Nat → Abs) : Prop where
  inv : Inv S
  live : S.live = S.size
  good : ∀ (i : Nat) e, S.ents[i]? = some e → S.idx e.key = some (i : Int) → ∃ x, DenT S i x
  own : ∀ t, t < 64 → ∀ x, x ∈ (A t).have_ ↔ ∃ (i : Nat) (e : EntD), S.ents[i]? = some e ∧ e.mask.testBit t = true ∧ DenT S i x
  add1 : ∀ t, t < 64 → ∀ id ∈ S.added t, ∃ (i : Nat) (x : Thing), id = i ∧ DenT S i x ∧ x ∈ (A t).added
  add2 : ∀ t, t < 64 → ∀ x ∈ (A t).added, ∃ i : Nat, (i : Int) ∈ S.added t ∧ DenT S i x
  ok : ∀ t, t < 64 → AOk (A t)

theorem nodup_map {α β : Type} {f : α → β} : ∀ {l : List α}, (∀ a ∈ l, ∀ b ∈ l, f a = f b → a = b) → l.Nodup → (l.map f).Nodup
  | [], _, _ => List.nodup_nil
  | a :: l, h, hn => by
    rw [List.nodup_cons] at hn
    rw [List.map_cons, List.nodup_cons]
    refine ⟨fun hm => ?_, nodup_map (fun x hx y hy => h x (List.mem_cons_of_mem _ hx) y (List.mem_cons_of_mem _ hy)) hn.2⟩
    obtain ⟨b, hb, e⟩ := List.mem_map.1 hm
    have := h b (List.mem_cons_of_mem _ hb) a (List.mem_cons_self ..) e
    subst this
    exact hn.1 hb
section
variable {S S' : ArS} {A : Nat → Abs}
theorem Rel.count (h : Rel S A) {t : Nat} (ht : t < 64) : S.count t = ((A t).have_.length : Int) := by
  rw [h.inv.count t ht]
  unfold bitC
  rw [← range_countP (fun e : EntD => e.mask.testBit t) S.ents, List.countP_eq_length_filter]
  generalize hL : (List.range S.ents.length).filter _ = L
  have hmem : ∀ i, i ∈ L ↔ ∃ e, S.ents[i]? = some e ∧ e.mask.testBit t = true := by
    intro i
    rw [← hL, List.mem_filter, List.mem_range]
    constructor
    · rintro ⟨h1, h2⟩
      cases he : S.ents[i]? with
      | none => rw [he] at h2; cases h2
      | some e => rw [he] at h2; exact ⟨e, rfl, h2⟩
    · rintro ⟨e, h1, h2⟩
      exact ⟨(List.getElem?_eq_some_iff.1 h1).1, by rw [h1]; exact h2⟩
  have hnd : L.Nodup := by rw [← hL]; exact List.Pairwise.filter _ List.nodup_range
  have key1 : ∀ x : Thing, ∃ i : Nat, x ∈ (A t).have_ → i ∈ L ∧ DenT S i x := by
    intro x
    by_cases hx : x ∈ (A t).have_
    · obtain ⟨i, e, h1, h2, h3⟩ := (h.own t ht x).1 hx
      exact ⟨i, fun _ => ⟨(hmem i).2 ⟨e, h1, h2⟩, h3⟩⟩
    · exact ⟨0, fun h => absurd h hx⟩
  have key2 : ∀ i : Nat, ∃ x : Thing, i ∈ L → x ∈ (A t).have_ ∧ DenT S i x := by
    intro i
    by_cases hi : i ∈ L
    · obtain ⟨e, h1, h2⟩ := (hmem i).1 hi
      obtain ⟨x, hx⟩ := h.good i e h1 (h.inv.own i e h1 (testBit_ne h2)).2
      exact ⟨x, fun _ => ⟨(h.own t ht x).2 ⟨i, e, h1, h2, hx⟩, hx⟩⟩
    · exact ⟨.note .dead 0 0, fun h => absurd h hi⟩
  obtain ⟨g, hg⟩ := Classical.axiomOfChoice key1
  obtain ⟨f, hf⟩ := Classical.axiomOfChoice key2
  have n1 : ((A t).have_.map g).Nodup := nodup_map (fun a ha b hb e => by
    have h1 := (hg a ha).2
    have h2 := (hg b hb).2
    rw [e] at h1
    exact DenT.fn h.inv h1 h2) (h.ok t ht).nodup
  have n2 : (L.map f).Nodup := nodup_map (fun a ha b hb e => by
    have h1 := (hf a ha).2
    have h2 := (hf b hb).2
    rw [e] at h1
    exact DenT.inj h1 h2) hnd
  have l1 := List.Nodup.length_le_of_subset n1 (l₂ := L) fun i hi => by obtain ⟨x, hx, rfl⟩ := List.mem_map.1 hi; exact (hg x hx).1
  have l2 := List.Nodup.length_le_of_subset n2 (l₂ := (A t).have_) fun x hx => by obtain ⟨i, hi, rfl⟩ := List.mem_map.1 hx; exact (hf i hi).1
  rw [List.length_map] at l1 l2
  have : L.length = (A t).have_.length := Nat.le_antisymm l2 l1
  rw [this]

/-- A key that names a thing. -/
def KeyT (S : ArS) (k : KeyA) (lv : Int) : Thing → Prop
  | .sq a b c d => k.kind = 0 ∧ lv = a.lvl + 1 ∧ Den S k.a0 a ∧ Den S k.a1 b ∧ Den S k.a2 c ∧ Den S k.a3 d
  | .note x r j => k.kind = 1 ∧ k.a1 = r ∧ k.a2 = j ∧ k.a3 = 0 ∧ Den S k.a0 x
theorem DenT.sqE {i : Nat} {a b c d : Tree} (h : DenT S i (.sq a b c d)) : ∃ e, S.ents[i]? = some e ∧ S.idx e.key = some (i : Int) ∧ e.key.kind = 0 ∧ e.level = a.lvl + 1 ∧ Den S e.key.a0 a ∧ Den S e.key.a1 b ∧ Den S e.key.a2 c ∧ Den S e.key.a3 d := by
  simp only [DenT, Den] at h
  obtain ⟨j, e, h1, h2, h3, h4, h5, h6⟩ := h
  have : j = i := by omega
  subst this
  exact ⟨e, h2, h3, h4, h5, h6⟩
theorem KeyT.key {k : KeyA} {lv : Int} {i : Nat} : ∀ {x : Thing}, KeyT S k lv x → DenT S i x → ∃ e, S.ents[i]? = some e ∧ e.key = k ∧ S.idx k = some (i : Int)
  | .sq .., h, hd => by
    obtain ⟨e, h2, h3, h4, h5, g0, g1, g2, g3⟩ := hd.sqE
    obtain ⟨k1, k2, k3, k4, k5, k6⟩ := h
    have : e.key = k := KeyA.ext (h4.trans k1.symm) (Den.inj g0 k3) (Den.inj g1 k4) (Den.inj g2 k5) (Den.inj g3 k6)
    exact ⟨e, h2, this, this ▸ h3⟩
  | .note .., h, hd => by
    obtain ⟨e, h4, h5, h6, h7, h8, h9, h10, _⟩ := hd
    obtain ⟨k1, k2, k3, k4, k5⟩ := h
    have : e.key = k := KeyA.ext (h6.trans k1.symm) (Den.inj h10 k5) (h7.trans k2.symm) (h8.trans k3.symm) (h9.trans k4.symm)
    exact ⟨e, h4, this, this ▸ h5⟩
theorem KeyT.of (hI : Inv S) {k : KeyA} {lv : Int} {i : Nat} {e : EntD} (he : S.ents[i]? = some e) (hk : e.key = k) : ∀ {x y : Thing}, KeyT S k lv x → DenT S i y → y = x
  | .sq .., .sq .., h, hd => by
    obtain ⟨e', h2, h3, h4, h5, g0, g1, g2, g3⟩ := hd.sqE
    rw [he] at h2; cases h2
    obtain ⟨k1, k2, k3, k4, k5, k6⟩ := h
    subst hk
    rw [Den.fn hI g0 k3, Den.fn hI g1 k4, Den.fn hI g2 k5, Den.fn hI g3 k6]
  | .sq .., .note .., h, hd => by
    obtain ⟨e', h4, h5, h6, _⟩ := hd
    rw [he] at h4; cases h4
    obtain ⟨k1, _⟩ := h
    subst hk; omega
  | .note .., .sq .., h, hd => by
    obtain ⟨e', h2, h3, h4, _⟩ := hd.sqE
    rw [he] at h2; cases h2
    obtain ⟨k1, _⟩ := h
    subst hk; omega
  | .note .., .note .., h, hd => by
    obtain ⟨e', h4, h5, h6, h7, h8, h9, h10, _⟩ := hd
    rw [he] at h4; cases h4
    obtain ⟨k1, k2, k3, k4, k5⟩ := h
    subst hk
    rw [Den.fn hI h10 k5, ← h7, ← h8, k2, k3]
/-- What give does, in plain words. -/
def aGive (A : Abs) (q : Int) (x : Thing) : Int × Abs :=
  if x ∈ A.have_ then (0, A) else if q ≤ (A.have_.length : Int) then (9, A) else (0, ⟨A.have_ ++ [x], A.added ++ [x]⟩)
theorem AOk.give {B : Abs} (h : AOk B) {x : Thing} (hx : x ∉ B.have_) (hk : kidsIn B.have_ x) : AOk ⟨B.have_ ++ [x], B.added ++ [x]⟩ := by
  have hr : restL ⟨B.have_ ++ [x], B.added ++ [x]⟩ = restL B := by
    unfold restL
    simp only
    rw [List.filter_append]
    have e1 : [x].filter (fun y => !decide (y ∈ B.added ++ [x])) = [] := by simp
    rw [e1, List.append_nil]
    refine List.filter_congr fun y hy => ?_
    have hyx : y ≠ x := fun e => hx (e ▸ hy)
    simp [hyx]
  refine ⟨?_, fun y hy => ?_, ?_, fun y hy => ?_⟩
  · refine List.nodup_append.2 ⟨h.nodup, by simp, fun a ha b hb => ?_⟩
    rw [List.mem_singleton] at hb
    subst hb
    rintro rfl
    exact hx ha
  · have hm : ∀ y ∈ B.have_, y ∈ B.have_ ++ [x] := fun y hy => List.mem_append_left _ hy
    rcases List.mem_append.1 hy with h1 | h1
    · exact kidsIn.mono hm (h.closed y h1)
    · rw [List.mem_singleton.1 h1]; exact kidsIn.mono hm hk
  · rw [hr]; exact h.rest
  · rcases List.mem_append.1 hy with h1 | h1
    · exact List.mem_append_left _ (h.added y h1)
    · exact List.mem_append_right _ h1
theorem Rel.gain (h : Rel S A) {t : Nat} (ht : t < 64) {i : Nat} {e : EntD} {x : Thing} (he : S.ents[i]? = some e) (hb : e.mask.testBit t = false) (hx : S.idx e.key = some (i : Int)) (hd : DenT S i x) (hk : kidsIn (A t).have_ x) :
    x ∉ (A t).have_ ∧ Twin S (gainS S t i) ∧ Rel (gainS S t i) (upd A t ⟨(A t).have_ ++ [x], (A t).added ++ [x]⟩) := by
  have h2 := h.inv.two hx
  have hno : x ∉ (A t).have_ := fun hm => by
    obtain ⟨j, e', h3, h4, h5⟩ := (h.own t ht x).1 hm
    have := DenT.inj hd h5
    subst this
    rw [he] at h3; cases h3
    rw [hb] at h4; cases h4
  have hI := h.inv.gain ht he hb h2 hx
  rw [gain_in he] at hI ⊢
  have tw : Twin S { S with ents := S.ents.set i { e with mask := setB e.mask t }, count := upd S.count t (S.count t + 1), added := upd S.added t (S.added t ++ [(i : Int)]) } := Twin.remask he _ _ _
  have hi := (List.getElem?_eq_some_iff.1 he).1
  have hg : ∀ j, (S.ents.set i { e with mask := setB e.mask t })[j]? = if j = i then some { e with mask := setB e.mask t } else S.ents[j]? := by
    intro j
    by_cases hj : j = i
    · subst hj; rw [if_pos rfl]; exact set_some he
    · rw [if_neg hj, List.getElem?_set_ne (Ne.symm hj)]
  refine ⟨hno, tw, hI, h.live, fun j e' h3 h4 => ?_, fun u hu y => ?_, fun u hu id hid => ?_, fun u hu y hy => ?_, fun u hu => ?_⟩
  · obtain ⟨e1, g1, g2, g3, g4⟩ := tw.back j e' h3
    obtain ⟨y, hy⟩ := h.good j e1 g1 (by rw [← g2]; exact h4)
    exact ⟨y, tw.denT.2 hy⟩
  · constructor
    · intro hy
      by_cases hut : u = t
      · subst hut
        rw [upd_same] at hy
        rcases List.mem_append.1 hy with h3 | h3
        · obtain ⟨j, e1, g1, g2, g3⟩ := (h.own u hu y).1 h3
          by_cases hj : j = i
          · subst hj
            rw [he] at g1; cases g1
            rw [hb] at g2; cases g2
          · exact ⟨j, e1, ((hg j).trans (if_neg hj)).trans g1, g2, tw.denT.2 g3⟩
        · rw [List.mem_singleton.1 h3]
          exact ⟨i, _, (hg i).trans (if_pos rfl), by simp [setB_bit], tw.denT.2 hd⟩
      · rw [upd_ne _ _ hut] at hy
        obtain ⟨j, e1, g1, g2, g3⟩ := (h.own u hu y).1 hy
        by_cases hj : j = i
        · subst hj
          rw [he] at g1; cases g1
          exact ⟨j, _, (hg j).trans (if_pos rfl), by rw [setB_bit, g2]; rfl, tw.denT.2 g3⟩
        · exact ⟨j, e1, ((hg j).trans (if_neg hj)).trans g1, g2, tw.denT.2 g3⟩
    · rintro ⟨j, e1, g1, g2, g3⟩
      have g5 := tw.denT.1 g3
      have g1 : (S.ents.set i { e with mask := setB e.mask t })[j]? = some e1 := g1
      rw [hg] at g1
      by_cases hj : j = i
      · subst hj
        rw [if_pos rfl] at g1; cases g1
        have g2 : (setB e.mask t).testBit u = true := g2
        rw [setB_bit] at g2
        by_cases hut : u = t
        · subst hut
          rw [upd_same, DenT.fn h.inv g5 hd]
          exact List.mem_append_right _ (List.mem_singleton.2 rfl)
        · rw [upd_ne _ _ hut]
          have : e.mask.testBit u = true := by simpa [Ne.symm hut] using g2
          exact (h.own u hu y).2 ⟨j, e, he, this, g5⟩
      · rw [if_neg hj] at g1
        have hm := (h.own u hu y).2 ⟨j, e1, g1, g2, g5⟩
        by_cases hut : u = t
        · subst hut; rw [upd_same]; exact List.mem_append_left _ hm
        · rw [upd_ne _ _ hut]; exact hm
  · by_cases hut : u = t
    · subst hut
      have hid : id ∈ upd S.added u (S.added u ++ [(i : Int)]) u := hid
      rw [upd_same] at hid ⊢
      rcases List.mem_append.1 hid with h3 | h3
      · obtain ⟨j, y, g1, g2, g3⟩ := h.add1 u hu id h3
        exact ⟨j, y, g1, tw.denT.2 g2, List.mem_append_left _ g3⟩
      · exact ⟨i, x, List.mem_singleton.1 h3, tw.denT.2 hd, List.mem_append_right _ (List.mem_singleton.2 rfl)⟩
    · have hid : id ∈ upd S.added t (S.added t ++ [(i : Int)]) u := hid
      rw [upd_ne _ _ hut] at hid ⊢
      obtain ⟨j, y, g1, g2, g3⟩ := h.add1 u hu id hid
      exact ⟨j, y, g1, tw.denT.2 g2, g3⟩
  · show ∃ j : Nat, (j : Int) ∈ upd S.added t (S.added t ++ [(i : Int)]) u ∧ _
    by_cases hut : u = t
    · subst hut
      rw [upd_same] at hy ⊢
      rcases List.mem_append.1 hy with h3 | h3
      · obtain ⟨j, g1, g2⟩ := h.add2 u hu y h3
        exact ⟨j, List.mem_append_left _ g1, tw.denT.2 g2⟩
      · rw [List.mem_singleton.1 h3]
        exact ⟨i, List.mem_append_right _ (List.mem_singleton.2 rfl), tw.denT.2 hd⟩
    · rw [upd_ne _ _ hut] at hy ⊢
      obtain ⟨j, g1, g2⟩ := h.add2 u hu y hy
      exact ⟨j, g1, tw.denT.2 g2⟩
  · by_cases hut : u = t
    · subst hut; rw [upd_same]; exact (h.ok u hu).give hno hk
    · rw [upd_ne _ _ hut]; exact h.ok u hu
end
end Go.Proofs.Ytgdijlpkbbfedaa

namespace Go.Proofs.Ytgdijlpkbbfedaa
open Go.RowKit

def newA (room : Int) (i : Nat) : ArS := { room := room, ents := [zeroE, zeroE], idx := fun _ => none, size := 0, free := [], count := fun _ => 0, quota := fun k => if k < i then room else 0, added := fun _ => [], live := 0 }
theorem newA_inv {room : Int} (h : 0 ≤ room ∧ room ≤ 200000) (i : Nat) : Inv (newA room i) where
  room := h
  zero := ⟨rfl, rfl⟩
  part := rfl
  full := by show (2 : Int) ≤ 2 + room; omega
  cnt := rfl
  idx := fun k id hk => by cases hk
  own := fun j e he hm => by
    exfalso
    rcases j with _ | _ | j
    · have := Option.some.inj he; subst this; exact hm rfl
    · have := Option.some.inj he; subst this; exact hm rfl
    · simp [newA] at he
  keys := fun e he => by
    have : e = zeroE := by
      simp [newA] at he; exact he
    subst this; exact zero_ok
  nodup := List.nodup_nil
  free := fun x hx => by cases hx
  count := fun t _ => by simp [newA, bitC, zeroE]
  added := fun t _ x hx => by cases hx
theorem mk_list (W : World) : (Instr.makeSlice 64 (.int .i64 2) (.int .i64 2)).run Try.prog W = .ok (.slice (some ⟨W.heap.size, 0, none⟩) 2 2) (W.alloc (.cells #[.int .i64 0, .int .i64 0, .int .i64 0, .int .i64 0, .int .i64 0, .int .i64 0, .int .i64 0, .int .u64 0, .int .i64 0, .int .i64 0, .int .i64 0, .int .i64 0, .int .i64 0, .int .i64 0, .int .i64 0, .int .u64 0] EN)) := by kernel_rfl
def zC (j : Nat) : Value := if j = 0 then .int .i64 0 else if j = 1 then .slice none 0 0 else if j = 2 then .map none else if j = 3 then .slice none 0 0 else if j < 68 then .int .i64 0 else if j < 132 then .int .i64 0 else if j < 196 then .slice none 0 0 else .int .i64 0
theorem zc_arena : Try.zeroCells71 = Array.ofFn (n := 197) fun i => zC i := by kernel_rfl
def newR (b m : Nat) : ArR := ⟨.slice (some ⟨b, 0, none⟩) 2 2, m, nilV, fun _ => nilV⟩
theorem new_cells (room : Int) (b m : Nat) : ((Try.zeroCells71.setIfInBounds 0 (.int .i64 room)).setIfInBounds 1 (.slice (some ⟨b, 0, none⟩) 2 2)).setIfInBounds 2 (.map (some m)) = arCells (newR b m) (newA room 0) := by
  rw [zc_arena]
  apply Array.ext (by simp [arCells])
  intro j hj hj'
  have hj197 : j < 197 := by simpa [arCells] using hj'
  by_cases h0 : j = 0
  · subst h0
    rw [Array.getElem_setIfInBounds_ne _ (by decide), Array.getElem_setIfInBounds_ne _ (by decide), Array.getElem_setIfInBounds_self]
    all_goals simp [arCells, arC, newA]
  · by_cases h1 : j = 1
    · subst h1
      rw [Array.getElem_setIfInBounds_ne _ (by decide), Array.getElem_setIfInBounds_self]
      all_goals simp [arCells, arC, newR]
    · by_cases h2 : j = 2
      · subst h2
        rw [Array.getElem_setIfInBounds_self]
        all_goals simp [arCells, arC, newR]
      · rw [Array.getElem_setIfInBounds_ne (by simp; omega) (Ne.symm h2), Array.getElem_setIfInBounds_ne (by simp; omega) (Ne.symm h1), Array.getElem_setIfInBounds_ne (by simp; omega) (Ne.symm h0)]
        simp only [arCells, Array.getElem_ofFn, zC, arC, newA, newR, nilV]
        simp only [h0, h1, h2, if_false]
        by_cases h3 : j = 3
        · simp only [h3, if_true]
        · simp only [h3, if_false]
          by_cases h4 : j < 68
          · simp only [h4, if_true]
          · simp only [h4, if_false]
            have : ¬ (j - 68 < 0) := by omega
            simp only [this, if_false]
theorem new_arm (w : World) (room : Int) : ArM (((w.alloc (.cells #[.int .i64 0, .int .i64 0, .int .i64 0, .int .i64 0, .int .i64 0, .int .i64 0, .int .i64 0, .int .u64 0, .int .i64 0, .int .i64 0, .int .i64 0, .int .i64 0, .int .i64 0, .int .i64 0, .int .i64 0, .int .u64 0] EN)).alloc (.map #[] 0)).alloc (.cells (((Try.zeroCells71.setIfInBounds 0 (.int .i64 room)).setIfInBounds 1 (.slice (some ⟨w.heap.size, 0, none⟩) 2 2)).setIfInBounds 2 (.map (some (w.heap.size + 1)))) AR)) (w.heap.size + 1 + 1) (newR w.heap.size (w.heap.size + 1)) (newA room 0) := by
  rw [new_cells]
  generalize hw1 : w.alloc (.cells #[.int .i64 0, .int .i64 0, .int .i64 0, .int .i64 0, .int .i64 0, .int .i64 0, .int .i64 0, .int .u64 0, .int .i64 0, .int .i64 0, .int .i64 0, .int .i64 0, .int .i64 0, .int .i64 0, .int .i64 0, .int .u64 0] EN) = w1
  have hs1 : w1.heap.size = w.heap.size + 1 := by subst hw1; simp
  have hb1 : Blk w1 w.heap.size EN #[.int .i64 0, .int .i64 0, .int .i64 0, .int .i64 0, .int .i64 0, .int .i64 0, .int .i64 0, .int .u64 0, .int .i64 0, .int .i64 0, .int .i64 0, .int .i64 0, .int .i64 0, .int .i64 0, .int .i64 0, .int .u64 0] := by subst hw1; exact Blk.new w _ _
  generalize hw2 : w1.alloc (.map #[] 0) = w2
  have hs2 : w2.heap.size = w.heap.size + 1 + 1 := by subst hw2; simp [hs1]
  have hb2 : Blk w2 w.heap.size EN #[.int .i64 0, .int .i64 0, .int .i64 0, .int .i64 0, .int .i64 0, .int .i64 0, .int .i64 0, .int .u64 0, .int .i64 0, .int .i64 0, .int .i64 0, .int .i64 0, .int .i64 0, .int .i64 0, .int .i64 0, .int .u64 0] := by subst hw2; exact hb1.alloc _
  have hm2 : MapK w2 (w.heap.size + 1) 0 (fun _ => none) := by subst hw2; rw [← hs1]; exact MapK.made w1
  have hnone : ∀ b, sblk nilV ≠ some b := fun b h => by simp [nilV, sblk] at h
  refine ⟨?_, ?_, ?_, Sl.nil _ _ _, fun t _ => Sl.nil _ _ _, fun t _ b hb => absurd hb (hnone b), fun t t' _ _ _ b hb => absurd hb (hnone b), ?_⟩
  · have := Blk.new w2 AR (arCells (newR w.heap.size (w.heap.size + 1)) (newA room 0))
    rw [hs2] at this; exact this
  · have hsl : Sl w2 EN 8 (.slice (some ⟨w.heap.size, 0, none⟩) 2 2) 2 (entsV [zeroE, zeroE]) := by
      refine ⟨rfl, some ⟨w.heap.size, 0, none⟩, 2, rfl, Nat.le_refl _, by unfold maxLen; omega, (fun h => nomatch h), fun a ha => ?_⟩
      injection ha with ha; subst ha
      exact ⟨_, rfl, hb2, Nat.le_refl 16, rfl⟩
    exact hsl.alloc _
  · exact hm2.of_block (Below.heap_alloc w2 _ _ (by omega))
  · intro e he
    have : e = zeroE := by simp [newA] at he; exact he
    subst this; exact zero_ok.2.2.2
def NewPost (w : World) (room : Int) (e : Ending) (w' : World) : Prop :=
  ∃ (p : Nat) (R : ArR), e = .returned (.tuple #[.pointer (some ⟨p, 0, none⟩), .int .i64 0]) ∧ ArM w' p R (newA room 64) ∧ Below w.heap.size w w' ∧ ∀ b, Own p R b → w.heap.size ≤ b

set_option maxRecDepth 100000 in
set_option maxHeartbeats 3200000 in
theorem new_any (w : World) (room : Int) (h : 0 ≤ room ∧ room ≤ 200000) :
    Calls Try.prog 19 #[.int .i64 room] w (NewPost w room) := by
  have H := Lib.hid h
  have h1 : ¬ room < 0 := by omega
  have h2 : ¬ 200000 < room := by omega
  clear h
  have hmm := @run_makeMap Try.prog
  have hmk := mk_list
  go_enter Try.func19, Try.ntmps19
  go_wp2_with fail
  have HA := Lib.hid (new_arm w room)
  have HBL : Hid (Below w.heap.size w (((w.alloc (.cells #[.int .i64 0, .int .i64 0, .int .i64 0, .int .i64 0, .int .i64 0, .int .i64 0, .int .i64 0, .int .u64 0, .int .i64 0, .int .i64 0, .int .i64 0, .int .i64 0, .int .i64 0, .int .i64 0, .int .i64 0, .int .u64 0] EN)).alloc (.map #[] 0)).alloc (.cells (((Try.zeroCells71.setIfInBounds 0 (.int .i64 room)).setIfInBounds 1 (.slice (some ⟨w.heap.size, 0, none⟩) 2 2)).setIfInBounds 2 (.map (some (w.heap.size + 1)))) AR))) :=
    (((Below.refl w.heap.size w).alloc (Nat.le_refl _) _).alloc (by simp) _).alloc (by simp; omega) _
  have HOW : Hid (∀ b, Own (w.heap.size + 1 + 1) (newR w.heap.size (w.heap.size + 1)) b → w.heap.size ≤ b) := by
    show ∀ b, Own (w.heap.size + 1 + 1) (newR w.heap.size (w.heap.size + 1)) b → w.heap.size ≤ b
    intro b hb
    rcases hb with h | h | h | h | ⟨t, _, h⟩
    · omega
    · rw [h]; show w.heap.size ≤ w.heap.size + 1; omega
    · have := Option.some.inj h; show w.heap.size ≤ b; rw [← this]; exact Nat.le_refl _
    · simp [newR, nilV, sblk] at h
    · simp [newR, nilV, sblk] at h
  change Code.wp _ _ _ _ (((w.alloc (.cells #[.int .i64 0, .int .i64 0, .int .i64 0, .int .i64 0, .int .i64 0, .int .i64 0, .int .i64 0, .int .u64 0, .int .i64 0, .int .i64 0, .int .i64 0, .int .i64 0, .int .i64 0, .int .i64 0, .int .i64 0, .int .u64 0] EN)).alloc (.map #[] 0)).alloc (.cells (((Try.zeroCells71.setIfInBounds 0 (.int .i64 room)).setIfInBounds 1 (.slice (some ⟨w.heap.size, 0, none⟩) 2 2)).setIfInBounds 2 (.map (some (w.heap.size + 1)))) AR))
  generalize World.alloc _ _ = w2 at HA HBL ⊢
  generalize newR w.heap.size (w.heap.size + 1) = R at HA HOW
  clear hmm hmk
  go_loopw [17] (fun iv wx => ∃ i : Nat, iv = .int .i64 i ∧ i ≤ 64 ∧ ArM wx (w.heap.size + 1 + 1) R (newA room i) ∧ Below w.heap.size w wx) (fun iv _ => 64 - (intOf iv).toNat)
  case atStart => exact ⟨0, rfl, Nat.zero_le _, HA.out, HBL.out⟩
  case round =>
    obtain ⟨i, rfl, hi, hA, hB⟩ := hrel
    by_cases hi4 : i < 64
    · have c0 := hA.cQuota hi4
      have f0 := hA.f (68 + i)
      have hlt : (i : Int) < 64 := by omega
      have hwi := wrap_nat' i (by unfold maxLen; omega)
      have HA2 : Hid (ArM (wr.setCell ⟨w.heap.size + 1 + 1, 68 + i, none⟩ (.int .i64 room)) (w.heap.size + 1 + 1) R (newA room (i + 1))) := by
        have := hA.put (arCells_quota R (newA room i) hi4 room) rfl rfl rfl rfl rfl
        have e : ({ newA room i with quota := upd (newA room i).quota i room } : ArS) = newA room (i + 1) := by
          have hq : upd (newA room i).quota i room = fun k => if k < i + 1 then room else 0 := by
            funext k
            show upd (fun k => if k < i then room else 0) i room k = _
            unfold upd
            by_cases hk : k = i
            · subst hk; simp
            · simp only [hk, if_false]
              by_cases hk2 : k < i
              · simp [hk2]; omega
              · simp [hk2]; omega
          rw [hq]; rfl
        rw [e] at this
        exact this
      have HB2 := Lib.hid (hB.setCell (p := ⟨w.heap.size + 1 + 1, 68 + i, none⟩) (by show w.heap.size ≤ w.heap.size + 1 + 1; omega) (.int .i64 room))
      have HI4 := Lib.hid hi4
      clear hA hB hi hi4
      go_wp2_with fail
      go_roundw
      case rel => exact ⟨i + 1, by go_num, HI4.out, HA2.out, HB2.out⟩
      case measure => simp [intOf]; have := HI4.out; omega
    · have hi5 : i = 64 := by omega
      subst hi5
      have HA2 := Lib.hid hA
      have HB2 := Lib.hid hB
      clear hA hB hi hi4
      go_wp2_with fail
      go_returns
      exact ⟨_, R, rfl, HA2.out, HB2.out, HOW.out⟩
end Go.Proofs.Ytgdijlpkbbfedaa

namespace Go.Proofs.Ytgdijlpkbbfedaa
open Go.RowKit

/-- The value of a thing that is made. -/
def ValT (S : ArS) (va : Int) : Thing → Prop
  | .note x r j => Den S va (noteV x r j)
  | .sq .. => True
section
variable {S S' : ArS} {A : Nat → Abs}
theorem Tree.lvl_pos : ∀ x : Tree, 0 ≤ x.lvl
  | .dead => Int.le_refl _
  | .alive => Int.le_refl _
  | .node a _ _ _ => by have := Tree.lvl_pos a; simp only [Tree.lvl]; omega
/-- A number is taken for a new thing that is nobody's yet. -/
theorem Rel.make (h : Rel S A) {S1 : ArS} {i : Nat} {k : KeyA} {lv va : Int} {x : Thing} (ht2 : TakeR S i S1) (hk : k.ok) (hlv : 0 ≤ lv ∧ lv ≤ 44) (hn : S.idx k = none) (hr : S.live < S.room) (hx : KeyT S k lv x) (hv : ValT S va x) :
    Rel (newS S1 i k lv va) A ∧ (newS S1 i k lv va).ents[i]? = some ⟨k, lv, va, 0⟩ ∧ (newS S1 i k lv va).idx k = some (i : Int) ∧ DenT (newS S1 i k lv va) i x ∧ Stays (fun _ => True) S (newS S1 i k lv va) := by
  obtain ⟨g1, g2, g3⟩ := h.inv.made (va := va) ht2 hk hn hlv (by have := h.live; omega)
  obtain ⟨k1, k2, k3, k4, k5, k6, k7⟩ := ht2.keeps
  have hE : ∀ j, j ≠ i → S1.ents[j]? = S.ents[j]? := by
    intro j hj
    rcases ht2 with ⟨fr, hp, rfl⟩ | ⟨hf, hi, rfl⟩
    · rfl
    · show (S.ents ++ [zeroE])[j]? = _
      by_cases hl : j < S.ents.length
      · rw [List.getElem?_append_left hl]
      · rw [List.getElem?_eq_none (by simp; omega), List.getElem?_eq_none (by omega)]
  have hno : ∀ k, S.idx k ≠ some (i : Int) := by
    intro k' e
    rcases ht2 with ⟨fr, hp, rfl⟩ | ⟨hf, hi, rfl⟩
    · obtain ⟨j, h1, _, _, h4⟩ := h.inv.free (i : Int) (hp.subset (List.mem_cons_self ..))
      exact h4 k' e
    · obtain ⟨j, e', h1, _, h3, _⟩ := h.inv.idx _ _ e
      have := (List.getElem?_eq_some_iff.1 h3).1
      omega
  have hg : ∀ j, (newS S1 i k lv va).ents[j]? = if j = i then some ⟨k, lv, va, 0⟩ else S.ents[j]? := by
    intro j
    by_cases hj : j = i
    · subst hj; rw [if_pos rfl]; exact set_some g2
    · rw [if_neg hj]
      show (S1.ents.set i _)[j]? = _
      rw [List.getElem?_set_ne (Ne.symm hj)]; exact hE j hj
  have hix : ∀ k', (newS S1 i k lv va).idx k' = if k' = k then some (i : Int) else S.idx k' := fun k' => by
    show (if k' = k then some (i : Int) else S1.idx k') = _
    rw [k3]
  have hst : Stays (fun _ => True) S (newS S1 i k lv va) := fun j e he hx _ => by
    have hj : j ≠ i := by rintro rfl; exact hno _ hx
    have hkk : e.key ≠ k := by intro e2; rw [e2, hn] at hx; cases hx
    exact ⟨e, by rw [hg, if_neg hj]; exact he, rfl, rfl, rfl, by rw [hix, if_neg hkk]; exact hx⟩
  have hei : (newS S1 i k lv va).ents[i]? = some ⟨k, lv, va, 0⟩ := (hg i).trans (if_pos rfl)
  have hxi : (newS S1 i k lv va).idx k = some (i : Int) := (hix k).trans (if_pos rfl)
  have hd : DenT (newS S1 i k lv va) i x := by
    cases x with
    | sq a b c d =>
      obtain ⟨q1, q2, q3, q4, q5, q6⟩ := hx
      simp only [DenT, Den]
      exact ⟨i, _, rfl, hei, hxi, q1, q2, Den.stays hst q3, Den.stays hst q4, Den.stays hst q5, Den.stays hst q6⟩
    | note y r j =>
      obtain ⟨q1, q2, q3, q4, q5⟩ := hx
      exact ⟨_, hei, hxi, q1, q2, q3, q4, Den.stays hst q5, Den.stays hst hv⟩
  refine ⟨⟨g1, ?_, fun j e he hje => ?_, fun u hu y => ?_, fun u hu id hid => ?_, fun u hu y hy => ?_, h.ok⟩, hei, hxi, hd, hst⟩
  · show S1.live = ((S1.size + 1 : Nat) : Int)
    rw [k1, k2, h.live]; omega
  · rw [hg] at he
    by_cases hj : j = i
    · subst hj
      rw [if_pos rfl] at he; cases he
      exact ⟨x, hd⟩
    · rw [if_neg hj] at he
      rw [hix] at hje
      have hkk : e.key ≠ k := by
        intro e2
        rw [if_pos e2] at hje
        have := Option.some.inj hje; omega
      rw [if_neg hkk] at hje
      obtain ⟨y, hy⟩ := h.good j e he hje
      exact ⟨y, DenT.stays hst hy⟩
  · rw [h.own u hu y]
    constructor
    · rintro ⟨j, e, q1, q2, q3⟩
      have hj : j ≠ i := by rintro rfl; exact hno _ (h.inv.own j e q1 (testBit_ne q2)).2
      exact ⟨j, e, by rw [hg, if_neg hj]; exact q1, q2, DenT.stays hst q3⟩
    · rintro ⟨j, e, q1, q2, q3⟩
      rw [hg] at q1
      by_cases hj : j = i
      · rw [if_pos hj] at q1; cases q1
        simp at q2
      · rw [if_neg hj] at q1
        obtain ⟨z, hz⟩ := h.good j e q1 (h.inv.own j e q1 (testBit_ne q2)).2
        have := DenT.fn g1 q3 (DenT.stays hst hz)
        subst this
        exact ⟨j, e, q1, q2, hz⟩
  · have hid : id ∈ S1.added u := hid
    rw [k6] at hid
    obtain ⟨j, y, q1, q2, q3⟩ := h.add1 u hu id hid
    exact ⟨j, y, q1, DenT.stays hst q2, q3⟩
  · show ∃ j : Nat, (j : Int) ∈ S1.added u ∧ _
    rw [k6]
    obtain ⟨j, q1, q2⟩ := h.add2 u hu y hy
    exact ⟨j, q1, DenT.stays hst q2⟩
/-- What give does, in plain words. -/
theorem Rel.give (h : Rel S A) {t : Nat} (ht : t < 64) {k : KeyA} {lv va r c : Int} {x : Thing} (hk : k.ok) (hlv : 0 ≤ lv ∧ lv ≤ 44) (hroom : S.live < S.room) (hx : KeyT S k lv x) (hv : ValT S va x) (hkid : kidsIn (A t).have_ x) (hg : GiveR S t k lv va r c S') :
    c = (aGive (A t) (S.quota t) x).1 ∧ Rel S' (upd A t (aGive (A t) (S.quota t) x).2) ∧ Stays (fun _ => True) S S' ∧ (c = 0 → ∃ i : Nat, r = i ∧ DenT S' i x) ∧ S'.quota = S.quota ∧ S'.room = S.room ∧ S'.live ≤ S.live + 1 := by
  have hupd : ∀ B : Abs, B = A t → upd A t B = A := fun B e => by
    funext u
    by_cases hu : u = t
    · subst hu; rw [upd_same, e]
    · rw [upd_ne _ _ hu]
  have hsr : Stays (fun _ => True) S S := fun i e he hx _ => ⟨e, he, rfl, rfl, rfl, hx⟩
  have hnone : S.idx k = none → x ∉ (A t).have_ := fun hn hm => by
    obtain ⟨j, e, q1, q2, q3⟩ := (h.own t ht x).1 hm
    obtain ⟨e', q4, q5, q6⟩ := hx.key q3
    rw [hn] at q6; cases q6
  have hdn : ∀ {i : Nat} {e : EntD}, S.idx k = some (i : Int) → S.ents[i]? = some e → e.key = k ∧ DenT S i x := fun {i e} hi he => by
    have hek := h.inv.idx_of he hi
    obtain ⟨y, hy⟩ := h.good i e he (hek ▸ hi)
    have := KeyT.of h.inv he hek hx hy
    subst this
    exact ⟨hek, hy⟩
  cases hg with
  | has i e hi he hb =>
    obtain ⟨hek, hd⟩ := hdn hi he
    have hm : x ∈ (A t).have_ := (h.own t ht x).2 ⟨i, e, he, hb, hd⟩
    have ha : aGive (A t) (S.quota t) x = (0, A t) := by unfold aGive; rw [if_pos hm]
    rw [ha]
    exact ⟨rfl, by rw [hupd _ rfl]; exact h, hsr, fun _ => ⟨i, rfl, hd⟩, rfl, rfl, by omega⟩
  | much hno hq =>
    have hm : x ∉ (A t).have_ := fun hm => by
      obtain ⟨j, e, q1, q2, q3⟩ := (h.own t ht x).1 hm
      obtain ⟨e', q4, q5, q6⟩ := hx.key q3
      rw [q1] at q4; cases q4
      rw [hno j e q6 q1] at q2; cases q2
    rw [h.count ht] at hq
    have ha : aGive (A t) (S.quota t) x = (9, A t) := by unfold aGive; rw [if_neg hm, if_pos hq]
    rw [ha]
    exact ⟨rfl, by rw [hupd _ rfl]; exact h, hsr, (fun e => by cases e), rfl, rfl, by omega⟩
  | joins i e hi he hb hq =>
    obtain ⟨hek, hd⟩ := hdn hi he
    obtain ⟨hno, tw, hrel⟩ := h.gain ht he hb (hek ▸ hi) hd hkid
    rw [h.count ht] at hq
    have ha : aGive (A t) (S.quota t) x = (0, ⟨(A t).have_ ++ [x], (A t).added ++ [x]⟩) := by unfold aGive; rw [if_neg hno, if_neg (by omega)]
    rw [ha]
    refine ⟨rfl, hrel, tw.stays, fun _ => ⟨i, rfl, tw.denT.2 hd⟩, ?_, ?_, ?_⟩
    · rw [gain_in he]
    · rw [gain_in he]
    · rw [gain_in he]; show S.live ≤ S.live + 1; omega
  | full S0 n hn hq hr => omega
  | makes S0 S1 i hn hq hs hr ht2 =>
    rcases hs with ⟨_, rfl⟩ | ⟨hr2, _⟩
    · obtain ⟨hrel, he, hi, hd, hst⟩ := h.make (va := va) ht2 hk hlv hn hr hx hv
      obtain ⟨hno, tw, hrel2⟩ := hrel.gain ht he (by simp) hi hd hkid
      obtain ⟨k1, k2, k3, k4, k5, k6, k7⟩ := ht2.keeps
      rw [h.count ht] at hq
      have ha : aGive (A t) (S0.quota t) x = (0, ⟨(A t).have_ ++ [x], (A t).added ++ [x]⟩) := by unfold aGive; rw [if_neg hno, if_neg (by omega)]
      rw [ha]
      refine ⟨rfl, hrel2, fun j e h1 h2 h3 => ?_, fun _ => ⟨i, rfl, tw.denT.2 hd⟩, ?_, ?_, ?_⟩
      · obtain ⟨e1, p1, p2, p3, p4, p5⟩ := hst j e h1 h2 trivial
        obtain ⟨e2, p6, p7, p8, p9, p10⟩ := tw.stays j e1 p1 (by rw [p2]; exact p5) trivial
        exact ⟨e2, p6, p7.trans p2, p8.trans p3, p9.trans p4, by rw [← p2]; exact p10⟩
      · rw [gain_in he]; exact k5
      · rw [gain_in he]; exact k7
      · rw [gain_in he]; show S1.live ≤ _; omega
    · omega
/-- Losing a list of things, told entry for entry. -/
structure LoseF (S S' : ArS) (t : Nat) (L : List Int) : Prop where
  twin : Twin S S'
  bit : ∀ (j : Nat) e e', S.ents[j]? = some e → S'.ents[j]? = some e' → ∀ u, e'.mask.testBit u = (e.mask.testBit u && !(decide (u = t) && decide ((j : Int) ∈ L)))
theorem loseS_f (hI : Inv S) {t : Nat} (ht : t < 64) (i : Nat) : LoseF S (loseS S t i) t [(i : Int)] := by
  unfold loseS
  have same : ∀ e, S.ents[i]? = some e → e.mask.testBit t = false → LoseF S S t [(i : Int)] := fun e he hb =>
    ⟨⟨rfl, fun j e he => ⟨e, he, rfl, rfl, rfl⟩, fun j e he => ⟨e, he, rfl, rfl, rfl⟩⟩, fun j e1 e2 h1 h2 u => by
      rw [h1] at h2; cases h2
      by_cases hu : u = t
      · subst hu
        by_cases hj : j = i
        · subst hj; rw [he] at h1; cases h1; rw [hb]; rfl
        · have : ¬ ((j : Int) = (i : Int)) := by omega
          simp [this]
      · simp [hu]⟩
  cases he : S.ents[i]? with
  | none =>
    simp only
    refine ⟨⟨rfl, fun j e he => ⟨e, he, rfl, rfl, rfl⟩, fun j e he => ⟨e, he, rfl, rfl, rfl⟩⟩, fun j e1 e2 h1 h2 u => ?_⟩
    rw [h1] at h2; cases h2
    have hj : j ≠ i := by rintro rfl; rw [he] at h1; cases h1
    have : ¬ ((j : Int) = (i : Int)) := by omega
    simp [this]
  | some e =>
    simp only
    have hk := (h_keys hI he)
    by_cases hb : e.mask.testBit t = true
    · rw [if_pos hb]
      have tw : Twin S { S with ents := S.ents.set i { e with mask := clrB e.mask t }, count := upd S.count t (S.count t - 1) } := Twin.remask he _ _ S.added
      refine ⟨tw, fun j e1 e2 h1 h2 u => ?_⟩
      have h2 : (S.ents.set i { e with mask := clrB e.mask t })[j]? = some e2 := h2
      by_cases hj : j = i
      · subst hj
        rw [set_some he] at h2
        rw [he] at h1; cases h1
        cases h2
        show (clrB e.mask t).testBit u = _
        rw [clrB_bit hk ht]
        by_cases hu : u = t
        · subst hu; simp
        · have : ¬ t = u := fun e => hu e.symm
          simp [hu, this]
      · rw [List.getElem?_set_ne (Ne.symm hj), h1] at h2; cases h2
        have : ¬ ((j : Int) = (i : Int)) := by omega
        simp [this]
    · rw [if_neg hb]; exact same e he (by simpa using hb)
where h_keys {S : ArS} (hI : Inv S) {i : Nat} {e : EntD} (he : S.ents[i]? = some e) : e.mask < 18446744073709551616 := (hI.keys e (List.mem_of_getElem? he)).2.2.2
theorem loseL_f {t : Nat} (ht : t < 64) : ∀ (L : List Int) (S : ArS), Inv S → (∀ x ∈ L, ∃ i : Nat, x = i) → LoseF S (loseL S t L) t L
  | [], S, _, _ => ⟨⟨rfl, fun j e he => ⟨e, he, rfl, rfl, rfl⟩, fun j e he => ⟨e, he, rfl, rfl, rfl⟩⟩, fun j e1 e2 h1 h2 u => by
      have h2 : S.ents[j]? = some e2 := h2
      rw [h1] at h2; cases h2; simp⟩
  | x :: L, S, hI, hL => by
    obtain ⟨i, rfl⟩ := hL x (List.mem_cons_self ..)
    have h1 := loseS_f hI ht i
    have h2 := loseL_f ht L (loseS S t i) (hI.lose ht i) fun y hy => hL y (List.mem_cons_of_mem _ hy)
    have e : loseL S t ((i : Int) :: L) = loseL (loseS S t i) t L := by
      show loseL (loseS S t (i : Int).toNat) t L = _
      rw [Int.toNat_natCast]
    rw [e]
    refine ⟨⟨h2.twin.idx.trans h1.twin.idx, fun j e he => ?_, fun j e he => ?_⟩, fun j e1 e3 g1 g3 u => ?_⟩
    · obtain ⟨e1, p1, p2, p3, p4⟩ := h1.twin.ents j e he
      obtain ⟨e2, q1, q2, q3, q4⟩ := h2.twin.ents j e1 p1
      exact ⟨e2, q1, q2.trans p2, q3.trans p3, q4.trans p4⟩
    · obtain ⟨e1, p1, p2, p3, p4⟩ := h2.twin.back j e he
      obtain ⟨e2, q1, q2, q3, q4⟩ := h1.twin.back j e1 p1
      exact ⟨e2, q1, p2.trans q2, p3.trans q3, p4.trans q4⟩
    · obtain ⟨e2, p1, _⟩ := h1.twin.ents j e1 g1
      rw [h2.bit j e2 e3 p1 g3 u, h1.bit j e1 e2 g1 p1 u]
      by_cases hu : u = t
      · subst hu
        by_cases hji : (j : Int) = (i : Int)
        · simp [hji]
        · simp [hji]
      · simp [hu]
/-- A tenant loses some of what it has, and is given nothing since. -/
theorem Rel.lose (h : Rel S A) {t : Nat} (ht : t < 64) {L : List Int} {P : Thing → Bool} (hL : ∀ x ∈ L, ∃ i : Nat, x = i) (hP : ∀ (i : Nat) (e : EntD) (x : Thing), S.ents[i]? = some e → e.mask.testBit t = true → DenT S i x → ((i : Int) ∈ L ↔ P x = false))
    (hcl : ∀ x ∈ (A t).have_.filter P, kidsIn ((A t).have_.filter P) x) :
    Rel { loseL S t L with added := upd S.added t [] } (upd A t ⟨(A t).have_.filter P, []⟩) ∧ Twin S { loseL S t L with added := upd S.added t [] } := by
  have hf := loseL_f ht L S h.inv hL
  have hle := loseL_less t L S
  have hI := (loseL_inv ht L S h.inv).mark t
  rw [hle.added] at hI
  have tw : Twin S { loseL S t L with added := upd S.added t [] } := ⟨hf.twin.idx, hf.twin.ents, hf.twin.back⟩
  have hbit : ∀ (j : Nat) e e', S.ents[j]? = some e → (loseL S t L).ents[j]? = some e' → ∀ u, e'.mask.testBit u = (e.mask.testBit u && !(decide (u = t) && decide ((j : Int) ∈ L))) := hf.bit
  refine ⟨⟨hI, ?_, fun j e' h3 h4 => ?_, fun u hu y => ?_, fun u hu id hid => ?_, fun u hu y hy => ?_, fun u hu => ?_⟩, tw⟩
  · show (loseL S t L).live = ((loseL S t L).size : Int)
    rw [hle.live, hle.size]; exact h.live
  · obtain ⟨e1, g1, g2, g3, g4⟩ := tw.back j e' h3
    obtain ⟨y, hy⟩ := h.good j e1 g1 (by have := tw.idx; rw [← this, ← g2]; exact h4)
    exact ⟨y, tw.denT.2 hy⟩
  · constructor
    · intro hy
      by_cases hut : u = t
      · subst hut
        rw [upd_same] at hy
        obtain ⟨hy1, hy2⟩ := List.mem_filter.1 hy
        obtain ⟨j, e1, g1, g2, g3⟩ := (h.own u hu y).1 hy1
        obtain ⟨e2, p1, p2, p3, p4⟩ := tw.ents j e1 g1
        refine ⟨j, e2, p1, ?_, tw.denT.2 g3⟩
        rw [hbit j e1 e2 g1 p1 u, g2]
        have : ¬ (j : Int) ∈ L := fun hm => by rw [(hP j e1 y g1 g2 g3).1 hm] at hy2; cases hy2
        simp [this]
      · rw [upd_ne _ _ hut] at hy
        obtain ⟨j, e1, g1, g2, g3⟩ := (h.own u hu y).1 hy
        obtain ⟨e2, p1, p2, p3, p4⟩ := tw.ents j e1 g1
        refine ⟨j, e2, p1, ?_, tw.denT.2 g3⟩
        rw [hbit j e1 e2 g1 p1 u, g2]
        simp [hut]
    · rintro ⟨j, e2, p1, p2, p3⟩
      obtain ⟨e1, g1, g2, g3, g4⟩ := tw.back j e2 p1
      have hd := tw.denT.1 p3
      rw [hbit j e1 e2 g1 p1 u, Bool.and_eq_true] at p2
      have hm := (h.own u hu y).2 ⟨j, e1, g1, p2.1, hd⟩
      by_cases hut : u = t
      · subst hut
        rw [upd_same]
        refine List.mem_filter.2 ⟨hm, ?_⟩
        cases hPy : P y with
        | true => rfl
        | false =>
          have := (hP j e1 y g1 p2.1 hd).2 hPy
          have := p2.2
          simp_all
      · rw [upd_ne _ _ hut]; exact hm
  · have hid : id ∈ upd S.added t [] u := hid
    by_cases hut : u = t
    · subst hut; rw [upd_same] at hid; cases hid
    · rw [upd_ne _ _ hut] at hid ⊢
      obtain ⟨j, y, g1, g2, g3⟩ := h.add1 u hu id hid
      exact ⟨j, y, g1, tw.denT.2 g2, g3⟩
  · show ∃ j : Nat, (j : Int) ∈ upd S.added t [] u ∧ _
    by_cases hut : u = t
    · subst hut; rw [upd_same] at hy; cases hy
    · rw [upd_ne _ _ hut] at hy ⊢
      obtain ⟨j, g1, g2⟩ := h.add2 u hu y hy
      exact ⟨j, g1, tw.denT.2 g2⟩
  · by_cases hut : u = t
    · subst hut
      rw [upd_same]
      have hr : restL ⟨(A u).have_.filter P, []⟩ = (A u).have_.filter P := by
        unfold restL
        simp
      exact ⟨(h.ok u hu).nodup.filter _, hcl, by rw [hr]; exact hcl, fun x hx => by cases hx⟩
    · rw [upd_ne _ _ hut]; exact h.ok u hu
theorem Rel.undo (h : Rel S A) {t : Nat} (ht : t < 64) : Rel (undoS S t) (upd A t ⟨restL (A t), []⟩) ∧ Twin S (undoS S t) := by
  have := h.lose ht (L := S.added t) (P := fun x => !decide (x ∈ (A t).added)) (fun x hx => by
    obtain ⟨i, _, e, _⟩ := h.add1 t ht x hx; exact ⟨i, e⟩) (fun i e x he hb hd => by
    have hiff : (i : Int) ∈ S.added t ↔ x ∈ (A t).added := by
      constructor
      · intro hm
        obtain ⟨j, y, e1, h2, h3⟩ := h.add1 t ht _ hm
        have : j = i := by omega
        subst this
        rw [DenT.fn h.inv hd h2]; exact h3
      · intro hm
        obtain ⟨j, h2, h3⟩ := h.add2 t ht x hm
        rw [DenT.inj hd h3]; exact h2
    rw [hiff]; simp) (h.ok t ht).rest
  exact this
/-- All trees in a tree. -/
def subs : Tree → List Tree
  | .dead => [.dead]
  | .alive => [.alive]
  | .node a b c d => .node a b c d :: (subs a ++ subs b ++ subs c ++ subs d)
theorem subs_self : ∀ x : Tree, x ∈ subs x
  | .dead => List.mem_singleton.2 rfl
  | .alive => List.mem_singleton.2 rfl
  | .node .. => List.mem_cons_self ..
theorem subs_trans : ∀ {z y : Tree} (x : Tree), y ∈ subs x → z ∈ subs y → z ∈ subs x
  | z, y, .dead, h, h2 => by rw [List.mem_singleton.1 h] at h2; exact h2
  | z, y, .alive, h, h2 => by rw [List.mem_singleton.1 h] at h2; exact h2
  | z, y, .node a b c d, h, h2 => by
    simp only [subs] at h ⊢
    rcases List.mem_cons.1 h with rfl | h
    · exact h2
    · refine List.mem_cons_of_mem _ ?_
      simp only [List.mem_append] at h ⊢
      rcases h with ((h | h) | h) | h
      · exact .inl (.inl (.inl (subs_trans a h h2)))
      · exact .inl (.inl (.inr (subs_trans b h h2)))
      · exact .inl (.inr (subs_trans c h h2))
      · exact .inr (subs_trans d h h2)
def keepT (root : Tree) : Thing → Bool
  | .sq a b c d => decide (Tree.node a b c d ∈ subs root)
  | .note .. => false
theorem Rel.owns (h : Rel S A) {t : Nat} (ht : t < 64) {x : Tree} {id : Int} (hd : Den S id x) : ownsB S t id 0 = hasT (A t).have_ x := by
  cases x with
  | dead => simp only [Den] at hd; subst hd; simp [ownsB, hasT]
  | alive => simp only [Den] at hd; subst hd; simp [ownsB, hasT]
  | node a b c d =>
    have hd2 := hd
    simp only [Den] at hd
    obtain ⟨i, e, rfl, h1, h2, h3, h4, _⟩ := hd
    have h5 := h.inv.two h2
    have hdt : DenT S i (.sq a b c d) := hd2
    have e1 : entAt S (i : Int) = some e := by unfold entAt; rw [if_pos (by omega), Int.toNat_natCast]; exact h1
    unfold ownsB
    rw [e1]
    have n0 : ((i : Int) == 0) = false := by rw [beq_eq_false_iff_ne]; omega
    have n1 : ((i : Int) == 1) = false := by rw [beq_eq_false_iff_ne]; omega
    simp only [hasT, n0, n1, h3]
    have hiff : Thing.sq a b c d ∈ (A t).have_ ↔ e.mask.testBit t = true := by
      rw [h.own t ht]
      constructor
      · rintro ⟨j, e', q1, q2, q3⟩
        have := DenT.inj hdt q3
        subst this
        rw [h1] at q1; cases q1; exact q2
      · intro hb; exact ⟨i, e, h1, hb, hdt⟩
    by_cases hm : Thing.sq a b c d ∈ (A t).have_
    · simp [hm, hiff.1 hm]
    · have : e.mask.testBit t = false := by
        cases hb : e.mask.testBit t with
        | false => rfl
        | true => exact absurd (hiff.2 hb) hm
      simp [hm, this]
theorem Den.ge2 (_h : Inv S) {x : Tree} {id : Int} (hd : Den S id x) (h2 : 2 ≤ id) : ∃ a b c d, x = .node a b c d := by
  cases x with
  | dead => simp only [Den] at hd; omega
  | alive => simp only [Den] at hd; omega
  | node a b c d => exact ⟨a, b, c, d, rfl⟩
theorem reach_sub (h : Rel S A) {t : Nat} {root : Tree} {id : Int} (hd : Den S id root) {x : Int} (hr : Reach S t [id] x) : ∃ y ∈ subs root, Den S x y := by
  induction hr with
  | root x h1 h2 h3 => rw [List.mem_singleton.1 h1]; exact ⟨root, subs_self _, hd⟩
  | kid i e x hp he hx h2 h3 ih =>
    obtain ⟨y, hy, hyd⟩ := ih
    obtain ⟨hp2, _⟩ := hp.own
    obtain ⟨a, b, c, d, rfl⟩ := hyd.ge2 h.inv hp2
    simp only [Den] at hyd
    obtain ⟨i', e', q1, q2, q3, q4, q5, g0, g1, g2, g3⟩ := hyd
    have : i = i' := by omega
    subst this
    rw [he] at q2; cases q2
    have key : ∀ z, z ∈ subs a ++ subs b ++ subs c ++ subs d → z ∈ subs root := fun z hz => subs_trans root hy (List.mem_cons_of_mem _ hz)
    simp only [kidsOf, List.mem_cons, List.not_mem_nil, or_false] at hx
    rcases hx with rfl | rfl | rfl | rfl
    · exact ⟨a, key _ (by simp [subs_self a]), g0⟩
    · exact ⟨b, key _ (by simp [subs_self b]), g1⟩
    · exact ⟨c, key _ (by simp [subs_self c]), g2⟩
    · exact ⟨d, key _ (by simp [subs_self d]), g3⟩
theorem sub_reach (h : Rel S A) {t : Nat} (ht : t < 64) {roots : List Int} : ∀ {x : Tree} {id : Int}, Den S id x → (2 ≤ id → Reach S t roots id) → hasT (A t).have_ x = true → ∀ {y : Tree} {j : Int}, y ∈ subs x → Den S j y → 2 ≤ j → Reach S t roots j
  | .dead, id, hd, hr, _, y, j, hy, hj, h2 => by rw [List.mem_singleton.1 hy] at hj; simp only [Den] at hj; omega
  | .alive, id, hd, hr, _, y, j, hy, hj, h2 => by rw [List.mem_singleton.1 hy] at hj; simp only [Den] at hj; omega
  | .node a b c d, id, hd, hr, hh, y, j, hy, hj, h2 => by
    simp only [subs] at hy
    rcases List.mem_cons.1 hy with rfl | hy
    · have := Den.inj hd hj
      subst this
      exact hr h2
    · have hm : Thing.sq a b c d ∈ (A t).have_ := of_decide_eq_true hh
      obtain ⟨c0, c1, c2, c3⟩ := (h.ok t ht).closed _ hm
      have hd2 := hd
      simp only [Den] at hd
      obtain ⟨i, e, rfl, q2, q3, q4, q5, g0, g1, g2, g3⟩ := hd
      have hri := hr (by have := h.inv.two q3; omega)
      have kid : ∀ {z : Tree} {k : Int}, k ∈ kidsOf e → Den S k z → hasT (A t).have_ z = true → 2 ≤ k → Reach S t roots k := fun {z k} hk hz hzh h2k => .kid i e k hri q2 hk h2k (by rw [h.owns ht hz]; exact hzh)
      simp only [List.mem_append] at hy
      rcases hy with ((hy | hy) | hy) | hy
      · exact sub_reach h ht g0 (kid (by simp [kidsOf]) g0 c0) c0 hy hj h2
      · exact sub_reach h ht g1 (kid (by simp [kidsOf]) g1 c1) c1 hy hj h2
      · exact sub_reach h ht g2 (kid (by simp [kidsOf]) g2 c2) c2 hy hj h2
      · exact sub_reach h ht g3 (kid (by simp [kidsOf]) g3 c3) c3 hy hj h2
theorem hasT_sub {B : Abs} (h : AOk B) : ∀ {x : Tree}, hasT B.have_ x = true → ∀ {y : Tree}, y ∈ subs x → hasT B.have_ y = true
  | .dead, _, y, hy => by rw [List.mem_singleton.1 hy]; rfl
  | .alive, _, y, hy => by rw [List.mem_singleton.1 hy]; rfl
  | .node a b c d, hh, y, hy => by
    simp only [subs] at hy
    rcases List.mem_cons.1 hy with rfl | hy
    · exact hh
    · obtain ⟨c0, c1, c2, c3⟩ := h.closed _ (of_decide_eq_true hh)
      simp only [List.mem_append] at hy
      rcases hy with ((hy | hy) | hy) | hy
      · exact hasT_sub h c0 hy
      · exact hasT_sub h c1 hy
      · exact hasT_sub h c2 hy
      · exact hasT_sub h c3 hy
theorem Rel.clean (h : Rel S A) {t : Nat} (ht : t < 64) {root : Tree} {id : Int} (hd : Den S id root) (hh : hasT (A t).have_ root = true) (hc : CleanR S t [id] S') :
    Rel S' (upd A t ⟨(A t).have_.filter (keepT root), []⟩) ∧ Twin S S' ∧ S'.quota = S.quota ∧ S'.room = S.room ∧ S'.live = S.live := by
  obtain ⟨L, h1, h2, rfl⟩ := hc
  have hle := loseL_less t L S
  have := h.lose ht (L := L) (P := keepT root) (fun x hx => by obtain ⟨i, e, _⟩ := h1 x hx; exact ⟨i, e⟩) (fun i e x he hb hdx => by
    have hi2 := (h.inv.own i e he (testBit_ne hb)).1
    rw [h2 i hi2 (List.getElem?_eq_some_iff.1 he).1]
    have hroot : 2 ≤ id → Reach S t [id] id := fun h2 => .root id (List.mem_singleton.2 rfl) h2 (by rw [h.owns ht hd]; exact hh)
    cases x with
    | sq a b c d =>
      have hiff : Reach S t [id] (i : Int) ↔ Tree.node a b c d ∈ subs root := by
        constructor
        · intro hr
          obtain ⟨y, hy, hyd⟩ := reach_sub h hd hr
          rw [Den.fn h.inv (x := Tree.node a b c d) hdx hyd]; exact hy
        · intro hm
          exact sub_reach h ht hd hroot hh hm hdx (by omega)
      rw [hiff]; simp [keepT]
    | note s r j =>
      have : ¬ Reach S t [id] (i : Int) := fun hr => by
        obtain ⟨y, hy, hyd⟩ := reach_sub h hd hr
        obtain ⟨a, b, c, d, rfl⟩ := hyd.ge2 h.inv (by omega)
        have := DenT.fn h.inv (x := .note s r j) (y := .sq a b c d) hdx hyd
        cases this
      simp [keepT, this]) (fun x hx => by
    obtain ⟨hx1, hx2⟩ := List.mem_filter.1 hx
    cases x with
    | note s r j => cases hx2
    | sq a b c d =>
      have hm : Tree.node a b c d ∈ subs root := of_decide_eq_true hx2
      obtain ⟨c0, c1, c2, c3⟩ := (h.ok t ht).closed _ hx1
      have key : ∀ z, z ∈ subs a ++ subs b ++ subs c ++ subs d → hasT (A t).have_ z = true → hasT ((A t).have_.filter (keepT root)) z = true := fun z hz hzh => by
        cases z with
        | dead => rfl
        | alive => rfl
        | node a' b' c' d' =>
          have hm2 : Tree.node a' b' c' d' ∈ subs root := subs_trans root hm (List.mem_cons_of_mem _ hz)
          exact decide_eq_true (List.mem_filter.2 ⟨of_decide_eq_true hzh, decide_eq_true hm2⟩)
      exact ⟨key a (by simp [subs_self a]) c0, key b (by simp [subs_self b]) c1, key c (by simp [subs_self c]) c2, key d (by simp [subs_self d]) c3⟩)
  exact ⟨this.1, this.2, hle.quota, hle.room, hle.live⟩
/-- A mark. -/
theorem Rel.mark (h : Rel S A) {t : Nat} (ht : t < 64) : Rel { S with added := upd S.added t [] } (upd A t ⟨(A t).have_, []⟩) ∧ Twin S { S with added := upd S.added t [] } := by
  have := h.lose ht (L := []) (P := fun _ => true) (fun x hx => by cases hx) (fun _ _ _ _ _ _ => by simp) (by rw [List.filter_eq_self.2 (fun _ _ => rfl)]; exact (h.ok t ht).closed)
  rw [List.filter_eq_self.2 (fun _ _ => rfl)] at this
  exact this
theorem Rel.quota (h : Rel S A) (q : Nat → Int) : Rel { S with quota := q } A := by
  have tw : Twin S { S with quota := q } := ⟨rfl, fun j e he => ⟨e, he, rfl, rfl, rfl⟩, fun j e he => ⟨e, he, rfl, rfl, rfl⟩⟩
  refine ⟨h.inv.quota q, h.live, fun i e he hx => ?_, fun u hu y => ?_, fun u hu id hid => ?_, fun u hu y hy => ?_, h.ok⟩
  · obtain ⟨y, hy⟩ := h.good i e he hx
    exact ⟨y, tw.denT.2 hy⟩
  · rw [h.own u hu y]
    constructor
    · rintro ⟨i, e, h1, h2, h3⟩; exact ⟨i, e, h1, h2, tw.denT.2 h3⟩
    · rintro ⟨i, e, h1, h2, h3⟩; exact ⟨i, e, h1, h2, tw.denT.1 h3⟩
  · obtain ⟨j, y, g1, g2, g3⟩ := h.add1 u hu id hid
    exact ⟨j, y, g1, tw.denT.2 g2, g3⟩
  · obtain ⟨j, g1, g2⟩ := h.add2 u hu y hy
    exact ⟨j, g1, tw.denT.2 g2⟩
/-- A sweep: nobody has more or less. -/
theorem Rel.sweep (h : Rel S A) {n : Nat} (hs : SweepR S S' n) : Rel S' A ∧ Stays (fun e => e.mask ≠ 0) S S' ∧ S'.quota = S.quota ∧ S'.room = S.room ∧ S'.live ≤ S.live := by
  obtain ⟨hI', hl'⟩ := hs.inv h.inv h.live
  have hkp := sweep_keeps h.inv hs
  obtain ⟨S1, h1, rfl⟩ := hs
  have hf := h1.facts h.inv
  have hst : Stays (fun e => e.mask ≠ 0) S { S1 with live := S.live - n } := fun i e he hx hm => by
    obtain ⟨g1, g2⟩ := hf.same i e he (.inl hm)
    exact ⟨e, g1, rfl, rfl, rfl, by show S1.idx e.key = _; rw [g2]; exact hx⟩
  have hback : ∀ (i : Nat) e, S1.ents[i]? = some e → S1.idx e.key = some (i : Int) → S.ents[i]? = some e ∧ S.idx e.key = some (i : Int) ∧ e.mask ≠ 0 := by
    intro i e he hx
    have hm := hf.clean i e (by rw [← hf.len]; exact (List.getElem?_eq_some_iff.1 he).1) he hx
    have hx0 := hf.less _ _ hx
    obtain ⟨j, e0, q1, q2, q3, q4⟩ := h.inv.idx _ _ hx0
    have : j = i := by omega
    subst this
    have hee := (hf.same j e0 q3 (.inr (by rw [q4]; exact hx))).1
    rw [he] at hee; cases hee
    exact ⟨q3, hx0, hm⟩
  have hown : ∀ u, u < 64 → ∀ x ∈ (A u).have_, ∃ (i : Nat) (e : EntD), S.ents[i]? = some e ∧ e.mask ≠ 0 ∧ DenT S i x := fun u hu x hx => by
    obtain ⟨i, e, q1, q2, q3⟩ := (h.own u hu x).1 hx
    exact ⟨i, e, q1, testBit_ne q2, q3⟩
  have hden : ∀ u, u < 64 → ∀ x ∈ (A u).have_, ∀ i, DenT S i x → DenT { S1 with live := S.live - n } i x := fun u hu x hx i hd => DenT.staysO h.inv hst (h.ok u hu).closed (hown u hu) hx hd
  have hall : ∀ (i : Nat) e, S1.ents[i]? = some e → e.mask ≠ 0 → ∃ u x, u < 64 ∧ e.mask.testBit u = true ∧ S.ents[i]? = some e ∧ x ∈ (A u).have_ ∧ DenT S i x ∧ DenT { S1 with live := S.live - n } i x := by
    intro i e he hm
    have hx := (hf.inv.own i e he hm).2
    obtain ⟨q1, q2, _⟩ := hback i e he hx
    obtain ⟨u, hu, hub⟩ := mask_bit hm (h.inv.keys e (List.mem_of_getElem? q1)).2.2.2
    obtain ⟨x, hd⟩ := h.good i e q1 q2
    have hmx := (h.own u hu x).2 ⟨i, e, q1, hub, hd⟩
    exact ⟨u, x, hu, hub, q1, hmx, hd, hden u hu x hmx i hd⟩
  refine ⟨⟨hI', hl', fun i e he hx => ?_, fun u hu y => ?_, fun u hu id hid => ?_, fun u hu y hy => ?_, h.ok⟩, hst, hkp.2.1, hkp.2.2.2.1, ?_⟩
  · obtain ⟨q1, q2, q3⟩ := hback i e he hx
    obtain ⟨u, x, _, _, _, _, _, g7⟩ := hall i e he q3
    exact ⟨x, g7⟩
  · constructor
    · intro hy
      obtain ⟨i, e, q1, q2, q3⟩ := (h.own u hu y).1 hy
      exact ⟨i, e, (hf.same i e q1 (.inl (testBit_ne q2))).1, q2, hden u hu y hy i q3⟩
    · rintro ⟨i, e, q1, q2, q3⟩
      obtain ⟨u', x, hu', hub, g3, g4, g5, g6⟩ := hall i e q1 (testBit_ne q2)
      have := DenT.fn hI' q3 g6
      subst this
      exact (h.own u hu y).2 ⟨i, e, g3, q2, g5⟩
  · have hid : id ∈ S1.added u := hid
    rw [hf.added] at hid
    obtain ⟨j, y, g1, g2, g3⟩ := h.add1 u hu id hid
    exact ⟨j, y, g1, hden u hu y ((h.ok u hu).added y g3) j g2, g3⟩
  · obtain ⟨j, g1, g2⟩ := h.add2 u hu y hy
    exact ⟨j, by show (j : Int) ∈ S1.added u; rw [hf.added]; exact g1, hden u hu y ((h.ok u hu).added y hy) j g2⟩
  · show S.live - n ≤ S.live; omega
theorem newA_rel {room : Int} (h : 0 ≤ room ∧ room ≤ 200000) (i : Nat) : Rel (newA room i) (fun _ => ⟨[], []⟩) where
  inv := newA_inv h i
  live := rfl
  good := fun j e he hx => by cases hx
  own := fun t ht x => by
    constructor
    · intro h; cases h
    · rintro ⟨j, e, h1, h2, h3⟩
      have : e = zeroE := by
        simp only [newA] at h1
        rcases List.mem_cons.1 (List.mem_of_getElem? h1) with h | h
        · exact h
        · exact List.mem_singleton.1 h
      subst this
      simp [zeroE] at h2
  add1 := fun t ht id hid => by cases hid
  add2 := fun t ht x hx => by cases hx
  ok := fun t ht => ⟨List.nodup_nil, fun x hx => (by cases hx), fun x hx => (by cases hx), fun x hx => (by cases hx)⟩
end
end Go.Proofs.Ytgdijlpkbbfedaa

namespace Go.Proofs.Ytgdijlpkbbfedaa
open Go.RowKit

def emptyT : Nat → Tree
  | 0 => .dead
  | n + 1 => .node (emptyT n) (emptyT n) (emptyT n) (emptyT n)
/-- The square of level n whose north-west corner is at x, y, of a set of cells. -/
def treeOf (P : Int → Int → Bool) : Nat → Int → Int → Tree
  | 0, x, y => if P x y then .alive else .dead
  | n + 1, x, y => .node (treeOf P n x y) (treeOf P n (x + 2 ^ n) y) (treeOf P n x (y + 2 ^ n)) (treeOf P n (x + 2 ^ n) (y + 2 ^ n))
/-- A place within a square. -/
def inB (n : Nat) (x y a b : Int) : Prop := x ≤ a ∧ a < x + 2 ^ n ∧ y ≤ b ∧ b < y + 2 ^ n
theorem pow_pos2 (n : Nat) : (0 : Int) < 2 ^ n := Int.pow_pos (by decide)
theorem inB.up {n : Nat} {x y a b : Int} : inB (n + 1) x y a b ↔ inB n x y a b ∨ inB n (x + 2 ^ n) y a b ∨ inB n x (y + 2 ^ n) a b ∨ inB n (x + 2 ^ n) (y + 2 ^ n) a b := by
  have := pow_pos2 n
  unfold inB
  rw [Int.pow_succ]
  omega
theorem treeOf_congr {P Q : Int → Int → Bool} : ∀ {n : Nat} {x y : Int}, (∀ a b, inB n x y a b → P a b = Q a b) → treeOf P n x y = treeOf Q n x y
  | 0, x, y, h => by
    have := h x y (by unfold inB; omega)
    simp only [treeOf, this]
  | n + 1, x, y, h => by
    simp only [treeOf]
    rw [treeOf_congr (n := n) (x := x) (y := y) fun a b hb => h a b (inB.up.2 (.inl hb)),
      treeOf_congr (n := n) (x := x + 2 ^ n) (y := y) fun a b hb => h a b (inB.up.2 (.inr (.inl hb))),
      treeOf_congr (n := n) (x := x) (y := y + 2 ^ n) fun a b hb => h a b (inB.up.2 (.inr (.inr (.inl hb)))),
      treeOf_congr (n := n) (x := x + 2 ^ n) (y := y + 2 ^ n) fun a b hb => h a b (inB.up.2 (.inr (.inr (.inr hb))))]
theorem treeOf_inj {P Q : Int → Int → Bool} : ∀ {n : Nat} {x y : Int}, treeOf P n x y = treeOf Q n x y → ∀ a b, inB n x y a b → P a b = Q a b
  | 0, x, y, h, a, b, hb => by
    unfold inB at hb
    have h1 : a = x := by omega
    have h2 : b = y := by omega
    subst h1 h2
    simp only [treeOf] at h
    cases hp : P a b <;> cases hq : Q a b <;> simp_all
  | n + 1, x, y, h, a, b, hb => by
    simp only [treeOf] at h
    injection h with h0 h1 h2 h3
    rcases inB.up.1 hb with k | k | k | k
    · exact treeOf_inj h0 a b k
    · exact treeOf_inj h1 a b k
    · exact treeOf_inj h2 a b k
    · exact treeOf_inj h3 a b k
theorem treeOf_none {P : Int → Int → Bool} : ∀ {n : Nat} {x y : Int}, (∀ a b, inB n x y a b → P a b = false) → treeOf P n x y = emptyT n
  | 0, x, y, h => by
    have := h x y (by unfold inB; omega)
    simp [treeOf, this, emptyT]
  | n + 1, x, y, h => by
    simp only [treeOf, emptyT]
    rw [treeOf_none (n := n) (x := x) (y := y) fun a b hb => h a b (inB.up.2 (.inl hb)),
      treeOf_none (n := n) (x := x + 2 ^ n) (y := y) fun a b hb => h a b (inB.up.2 (.inr (.inl hb))),
      treeOf_none (n := n) (x := x) (y := y + 2 ^ n) fun a b hb => h a b (inB.up.2 (.inr (.inr (.inl hb)))),
      treeOf_none (n := n) (x := x + 2 ^ n) (y := y + 2 ^ n) fun a b hb => h a b (inB.up.2 (.inr (.inr (.inr hb))))]
theorem treeOf_empty : ∀ (n : Nat) (x y : Int), treeOf (fun _ _ => false) n x y = emptyT n := fun _n _x _y => treeOf_none fun _ _ _ => rfl
theorem treeOf_emptyT {P : Int → Int → Bool} {n : Nat} {x y : Int} : treeOf P n x y = emptyT n ↔ ∀ a b, inB n x y a b → P a b = false := by
  constructor
  · intro h a b hb
    rw [← treeOf_empty n x y] at h
    exact treeOf_inj h a b hb
  · exact treeOf_none
theorem treeOf_lvl (P : Int → Int → Bool) : ∀ (n : Nat) (x y : Int), (treeOf P n x y).lvl = n
  | 0, x, y => by simp only [treeOf]; split <;> rfl
  | n + 1, x, y => by simp only [treeOf, Tree.lvl]; rw [treeOf_lvl P n x y]; omega
theorem emptyT_lvl (n : Nat) : (emptyT n).lvl = n := by rw [← treeOf_empty n 0 0]; exact treeOf_lvl _ n 0 0

/-- All squares that a tree is made of. -/
def nodes : Tree → List Thing
  | .node a b c d => .sq a b c d :: (nodes a ++ nodes b ++ nodes c ++ nodes d)
  | .dead => []
  | .alive => []
theorem mem_nodes {a b c d : Tree} {x : Thing} : x ∈ nodes (.node a b c d) ↔ x = .sq a b c d ∨ x ∈ nodes a ∨ x ∈ nodes b ∨ x ∈ nodes c ∨ x ∈ nodes d := by
  simp only [nodes, List.mem_cons, List.mem_append]
  constructor
  · rintro (h | ((h | h) | h) | h)
    · exact .inl h
    · exact .inr (.inl h)
    · exact .inr (.inr (.inl h))
    · exact .inr (.inr (.inr (.inl h)))
    · exact .inr (.inr (.inr (.inr h)))
  · rintro (h | h | h | h | h)
    · exact .inl h
    · exact .inr (.inl (.inl (.inl h)))
    · exact .inr (.inl (.inl (.inr h)))
    · exact .inr (.inl (.inr h))
    · exact .inr (.inr h)
theorem nodes_has {l : List Thing} (hc : ∀ x ∈ l, kidsIn l x) : ∀ {T : Tree}, hasT l T = true → ∀ x ∈ nodes T, x ∈ l
  | .dead, _, x, hx => by simp [nodes] at hx
  | .alive, _, x, hx => by simp [nodes] at hx
  | .node a b c d, h, x, hx => by
    have hm : Thing.sq a b c d ∈ l := of_decide_eq_true h
    obtain ⟨h0, h1, h2, h3⟩ := hc _ hm
    rcases mem_nodes.1 hx with rfl | k | k | k | k
    · exact hm
    · exact nodes_has hc h0 x k
    · exact nodes_has hc h1 x k
    · exact nodes_has hc h2 x k
    · exact nodes_has hc h3 x k
theorem has_nodes {l : List Thing} {T : Tree} (h : ∀ x ∈ nodes T, x ∈ l) : hasT l T = true := by
  cases T with
  | dead => rfl
  | alive => rfl
  | node a b c d => exact decide_eq_true (h _ (mem_nodes.2 (.inl rfl)))
/-- The empty squares up to a level. -/
def blanks : Nat → List Thing
  | 0 => []
  | n + 1 => .sq (emptyT n) (emptyT n) (emptyT n) (emptyT n) :: blanks n
theorem blanks_length : ∀ n, (blanks n).length = n
  | 0 => rfl
  | n + 1 => by simp [blanks, blanks_length n]
theorem nodes_emptyT : ∀ (n : Nat) (x : Thing), x ∈ nodes (emptyT n) ↔ x ∈ blanks n
  | 0, x => by simp [nodes, emptyT, blanks]
  | n + 1, x => by
    simp only [emptyT, blanks, mem_nodes, List.mem_cons, nodes_emptyT n x]
    constructor
    · rintro (h | h | h | h | h)
      · exact .inl h
      all_goals exact .inr h
    · rintro (h | h)
      · exact .inl h
      · exact .inr (.inl h)
theorem blanks_mono : ∀ {n m : Nat}, n ≤ m → ∀ x ∈ blanks n, x ∈ blanks m
  | n, 0, h, x, hx => by
    have : n = 0 := by omega
    subst this; exact hx
  | n, m + 1, h, x, hx => by
    rcases Nat.lt_or_ge n (m + 1) with k | k
    · exact List.mem_cons_of_mem _ (blanks_mono (by omega) x hx)
    · have : n = m + 1 := by omega
      subst this; exact hx
/-- The cells of a list, as a set. -/
def setOfL (l : List (Int × Int)) (a b : Int) : Bool := decide ((a, b) ∈ l)
def cntB (l : List (Int × Int)) (n : Nat) (x y : Int) : Nat := l.countP fun c => decide (x ≤ c.1 ∧ c.1 < x + 2 ^ n ∧ y ≤ c.2 ∧ c.2 < y + 2 ^ n)
theorem cntB_zero {l : List (Int × Int)} {n : Nat} {x y : Int} (h : cntB l n x y = 0) : ∀ a b, inB n x y a b → setOfL l a b = false := by
  intro a b hb
  unfold cntB at h
  rw [List.countP_eq_zero] at h
  unfold setOfL
  rw [decide_eq_false_iff_not]
  intro hm
  exact h _ hm (decide_eq_true hb)
theorem cntB_up (n : Nat) (x y : Int) : ∀ (l : List (Int × Int)), cntB l (n + 1) x y = cntB l n x y + cntB l n (x + 2 ^ n) y + cntB l n x (y + 2 ^ n) + cntB l n (x + 2 ^ n) (y + 2 ^ n)
  | [] => rfl
  | c :: l => by
    have ih := cntB_up n x y l
    unfold cntB at ih ⊢
    simp only [List.countP_cons]
    rw [ih]
    have hp := pow_pos2 n
    rw [show (2 : Int) ^ (n + 1) = 2 ^ n * 2 from Int.pow_succ 2 n]
    generalize (2 : Int) ^ n = m at *
    by_cases h1 : x ≤ c.1 ∧ c.1 < x + m * 2 ∧ y ≤ c.2 ∧ c.2 < y + m * 2
    · obtain ⟨a1, a2, a3, a4⟩ := h1
      by_cases h2 : c.1 < x + m <;> by_cases h3 : c.2 < y + m
      · rw [if_pos (by simp; omega), if_pos (by simp; omega), if_neg (by simp; omega), if_neg (by simp; omega), if_neg (by simp; omega)]; omega
      · rw [if_pos (by simp; omega), if_neg (by simp; omega), if_neg (by simp; omega), if_pos (by simp; omega), if_neg (by simp; omega)]; omega
      · rw [if_pos (by simp; omega), if_neg (by simp; omega), if_pos (by simp; omega), if_neg (by simp; omega), if_neg (by simp; omega)]; omega
      · rw [if_pos (by simp; omega), if_neg (by simp; omega), if_neg (by simp; omega), if_neg (by simp; omega), if_pos (by simp; omega)]; omega
    · rw [if_neg (by simpa using fun a b c d => h1 ⟨a, b, c, d⟩), if_neg (by simp; omega), if_neg (by simp; omega), if_neg (by simp; omega), if_neg (by simp; omega)]; omega
theorem cntB_le (l : List (Int × Int)) (n : Nat) (x y : Int) : cntB l n x y ≤ l.length := List.countP_le_length
/-- The squares of a set of cells: at most one a cell and level, besides the empty ones. -/
theorem nodes_few (l : List (Int × Int)) : ∀ (n : Nat) (x y : Int), ∃ V : List Thing, (∀ t ∈ nodes (treeOf (setOfL l) n x y), t ∈ blanks n ++ V) ∧ V.length ≤ cntB l n x y * n
  | 0, x, y => ⟨[], fun t ht => by
      simp only [treeOf] at ht
      split at ht <;> simp [nodes] at ht, by simp⟩
  | n + 1, x, y => by
    by_cases h0 : cntB l (n + 1) x y = 0
    · refine ⟨[], fun t ht => ?_, by simp⟩
      rw [treeOf_none (cntB_zero h0), nodes_emptyT] at ht
      simpa using ht
    · obtain ⟨V0, a0, b0⟩ := nodes_few l n x y
      obtain ⟨V1, a1, b1⟩ := nodes_few l n (x + 2 ^ n) y
      obtain ⟨V2, a2, b2⟩ := nodes_few l n x (y + 2 ^ n)
      obtain ⟨V3, a3, b3⟩ := nodes_few l n (x + 2 ^ n) (y + 2 ^ n)
      refine ⟨.sq (treeOf (setOfL l) n x y) (treeOf (setOfL l) n (x + 2 ^ n) y) (treeOf (setOfL l) n x (y + 2 ^ n)) (treeOf (setOfL l) n (x + 2 ^ n) (y + 2 ^ n)) :: (V0 ++ V1 ++ V2 ++ V3), fun t ht => ?_, ?_⟩
      · simp only [treeOf] at ht
        have hbl : ∀ {V : List Thing}, t ∈ blanks n ++ V → t ∈ blanks (n + 1) ∨ t ∈ V := fun {V} h => by
          rcases List.mem_append.1 h with k | k
          · exact .inl (blanks_mono (Nat.le_succ n) t k)
          · exact .inr k
        rw [List.mem_append, List.mem_cons, List.mem_append, List.mem_append, List.mem_append]
        rcases mem_nodes.1 ht with k | k | k | k | k
        · exact .inr (.inl k)
        · rcases hbl (a0 t k) with q | q
          · exact .inl q
          · exact .inr (.inr (.inl (.inl (.inl q))))
        · rcases hbl (a1 t k) with q | q
          · exact .inl q
          · exact .inr (.inr (.inl (.inl (.inr q))))
        · rcases hbl (a2 t k) with q | q
          · exact .inl q
          · exact .inr (.inr (.inl (.inr q)))
        · rcases hbl (a3 t k) with q | q
          · exact .inl q
          · exact .inr (.inr (.inr q))
      · simp only [List.length_cons, List.length_append]
        have hu := cntB_up n x y l
        rw [Nat.mul_succ]
        have : cntB l (n + 1) x y * n = cntB l n x y * n + cntB l n (x + 2 ^ n) y * n + cntB l n x (y + 2 ^ n) * n + cntB l n (x + 2 ^ n) (y + 2 ^ n) * n := by
          rw [hu, Nat.add_mul, Nat.add_mul, Nat.add_mul]
        omega
end Go.Proofs.Ytgdijlpkbbfedaa

namespace Go.Proofs.Ytgdijlpkbbfedaa
open Go.RowKit

/-- A step for a tenant: what others have stays; trees that are had stay what they are. -/
structure St (t : Nat) (S : ArS) (A : Nat → Abs) (S' : ArS) (A' : Nat → Abs) : Prop where
  rel : Rel S' A'
  oth : ∀ u, u ≠ t → A' u = A u
  mono : ∀ x ∈ (A t).have_, x ∈ (A' t).have_
  add : (∀ u, u < 64 → ((S.added u).length : Int) ≤ S.count u) → ∀ u, u < 64 → ((S'.added u).length : Int) ≤ S'.count u
  stay : ∀ u, u < 64 → ∀ x id, hasT (A u).have_ x = true → Den S id x → Den S' id x
  quota : S'.quota = S.quota
  room : S'.room = S.room
  new : ∀ x, x ∈ (A' t).added ↔ x ∈ (A t).added ∨ x ∈ (A' t).have_ ∧ x ∉ (A t).have_
/-- All things are of this list. -/
def Within (S : ArS) (V : List Thing) : Prop := ∀ (i : Nat) x, DenT S i x → x ∈ V
/-- What others have, and what one may have, has room. -/
def Roomy (S : ArS) (A : Nat → Abs) (t : Nat) : Prop := ∃ V : List Thing, (∀ u, u < 64 → u ≠ t → ∀ x ∈ (A u).have_, x ∈ V) ∧ (V.length : Int) + S.quota t ≤ S.room
/-- Things were made for a tenant, unless there was too much. -/
structure Made (t : Nat) (L : List Thing) (S : ArS) (A : Nat → Abs) (bad : Int) (S' : ArS) (A' : Nat → Abs) (bad' : Int) : Prop where
  st : St t S A S' A'
  ok : bad' = 0 → bad = 0 ∧ (∀ x, x ∈ (A' t).have_ ↔ x ∈ (A t).have_ ∨ x ∈ L) ∧ ∀ x, x ∈ (A' t).added ↔ x ∈ (A t).added ∨ x ∈ L ∧ x ∉ (A t).have_
  code : bad' = bad ∨ bad = 0 ∧ (bad' = 9 ∨ bad' = 5)
  enough : ∀ V, Within S V → (∀ x ∈ L, x ∈ V) → (V.length : Int) < S.room → (V.length : Int) < S.quota t → bad' = bad ∧ Within S' V ∧ Stays (fun _ => True) S S'
  least : ∀ V : List Thing, (∀ x ∈ (A t).have_, x ∈ V) → (∀ x ∈ L, x ∈ V) → ∀ x ∈ (A' t).have_, x ∈ V
  quit : bad = 0 → bad' = 9 → ∀ V : List Thing, (∀ x ∈ (A t).have_, x ∈ V) → (∀ x ∈ L, x ∈ V) → S.quota t < (V.length : Int)
  le : S.count t ≤ S.quota t → S'.count t ≤ S'.quota t
  roomy : Roomy S A t → bad' = bad ∨ bad' = 9
section
variable {S S' S1 S2 : ArS} {A A' A1 A2 : Nat → Abs} {t : Nat} {L L' L1 L2 : List Thing} {bad bad' bad1 bad2 : Int}
theorem Stays.refl (P : EntD → Prop) (S : ArS) : Stays P S S := fun _ e he hx _ => ⟨e, he, rfl, rfl, rfl, hx⟩
theorem Stays.trans (h : Stays (fun _ => True) S S1) (k : Stays (fun _ => True) S1 S2) : Stays (fun _ => True) S S2 := fun i e he hx _ => by
  obtain ⟨e1, p1, p2, p3, p4, p5⟩ := h i e he hx trivial
  obtain ⟨e2, p6, p7, p8, p9, p10⟩ := k i e1 p1 (by rw [p2]; exact p5) trivial
  exact ⟨e2, p6, p7.trans p2, p8.trans p3, p9.trans p4, by rw [← p2]; exact p10⟩
theorem St.refl (h : Rel S A) (t : Nat) : St t S A S A := ⟨h, fun _ _ => rfl, fun _ h => h, fun h => h, fun _ _ _ _ _ h => h, rfl, rfl, fun _ => ⟨.inl, fun q => q.elim id fun q => absurd q.1 q.2⟩⟩
theorem St.has (h : St t S A S1 A1) {u : Nat} {x : Thing} (hx : x ∈ (A u).have_) : x ∈ (A1 u).have_ := by
  by_cases hu : u = t
  · subst hu; exact h.mono x hx
  · rw [h.oth u hu]; exact hx
theorem St.hasT (h : St t S A S1 A1) {u : Nat} {x : Tree} (hx : hasT (A u).have_ x = true) : hasT (A1 u).have_ x = true := hasT.mono (fun _ => h.has) hx
theorem St.trans (h : St t S A S1 A1) (k : St t S1 A1 S2 A2) : St t S A S2 A2 :=
  ⟨k.rel, fun u hu => (k.oth u hu).trans (h.oth u hu), fun x hx => k.mono x (h.mono x hx), fun ha => k.add (h.add ha), fun u hu x id hx hd => k.stay u hu x id (h.hasT hx) (h.stay u hu x id hx hd), k.quota.trans h.quota, k.room.trans h.room, fun x => by
    rw [k.new, h.new]
    have e1 := h.mono x
    have e2 := k.mono x
    by_cases a : x ∈ (A t).have_ <;> by_cases b : x ∈ (A1 t).have_ <;> by_cases c : x ∈ (A2 t).have_ <;> simp_all⟩
theorem St.roomy (h : St t S A S1 A1) (hr : Roomy S A t) : Roomy S1 A1 t := by
  obtain ⟨V, h1, h2⟩ := hr
  exact ⟨V, fun u hu hne x hx => h1 u hu hne x (by rw [← h.oth u hne]; exact hx), by rw [h.quota, h.room]; exact h2⟩
theorem Made.refl (h : Rel S A) (t : Nat) (bad : Int) : Made t [] S A bad S A bad :=
  ⟨St.refl h t, fun e => ⟨e, fun x => by simp, fun x => by simp⟩, .inl rfl, fun V hV _ _ _ => ⟨rfl, hV, Stays.refl _ S⟩, fun V h1 _ => h1, fun e e' => absurd (e.symm.trans e') (by decide), id, fun _ => .inl rfl⟩
theorem Made.trans (h : Made t L1 S A bad S1 A1 bad1) (k : Made t L2 S1 A1 bad1 S2 A2 bad2) : Made t (L1 ++ L2) S A bad S2 A2 bad2 := by
  refine ⟨h.st.trans k.st, fun e => ?_, ?_, fun V hV hL hr hq => ?_, fun V h1 h2 => k.least V (h.least V h1 fun x hx => h2 x (List.mem_append_left _ hx)) fun x hx => h2 x (List.mem_append_right _ hx), fun e e' V h1 h2 => ?_, fun e => k.le (h.le e), fun hr => ?_⟩
  · obtain ⟨e1, k1, k2⟩ := k.ok e
    obtain ⟨e0, h1, h2⟩ := h.ok e1
    refine ⟨e0, fun x => ?_, fun x => ?_⟩
    · rw [k1, h1, List.mem_append, or_assoc]
    · rw [k2, h2, h1, List.mem_append]
      by_cases a : x ∈ L1 <;> by_cases b : x ∈ L2 <;> by_cases c : x ∈ (A t).have_ <;> simp [a, b, c]
  · rcases k.code with e | ⟨e, e'⟩
    · rw [e]; exact h.code
    · rcases h.code with f | ⟨f, f'⟩
      · exact .inr ⟨f ▸ e, e'⟩
      · exact .inr ⟨f, e'⟩
  · obtain ⟨a1, a2, a3⟩ := h.enough V hV (fun x hx => hL x (List.mem_append_left _ hx)) hr hq
    obtain ⟨b1, b2, b3⟩ := k.enough V a2 (fun x hx => hL x (List.mem_append_right _ hx)) (by rw [h.st.room]; exact hr) (by rw [h.st.quota]; exact hq)
    exact ⟨b1.trans a1, b2, a3.trans b3⟩
  · by_cases e1 : bad1 = 0
    · have := k.quit e1 e' V (h.least V h1 fun x hx => h2 x (List.mem_append_left _ hx)) fun x hx => h2 x (List.mem_append_right _ hx)
      rw [h.st.quota] at this; exact this
    · rcases k.code with c | ⟨c, _⟩
      · exact h.quit e (c.symm.trans e') V h1 fun x hx => h2 x (List.mem_append_left _ hx)
      · exact absurd c e1
  · rcases k.roomy (h.st.roomy hr) with c | c
    · rw [c]; exact h.roomy hr
    · exact .inr c
theorem Made.of (h : Made t L S A bad S' A' bad') (h1 : ∀ x ∈ L, x ∈ L') (h2 : bad' = 0 → ∀ x ∈ L', x ∈ L ∨ x ∈ (A t).have_) : Made t L' S A bad S' A' bad' := by
  refine ⟨h.st, fun e => ?_, h.code, fun V hV hL => h.enough V hV fun x hx => hL x (h1 x hx), fun V a1 a2 => h.least V a1 fun x hx => a2 x (h1 x hx), fun e e' V a1 a2 => h.quit e e' V a1 fun x hx => a2 x (h1 x hx), h.le, h.roomy⟩
  obtain ⟨e0, a1, a2⟩ := h.ok e
  refine ⟨e0, fun x => ?_, fun x => ?_⟩
  · rw [a1]
    constructor
    · rintro (a | a)
      · exact .inl a
      · exact .inr (h1 x a)
    · rintro (a | a)
      · exact .inl a
      · rcases h2 e x a with b | b
        · exact .inr b
        · exact .inl b
  · rw [a2]
    constructor
    · rintro (a | ⟨a, b⟩)
      · exact .inl a
      · exact .inr ⟨h1 x a, b⟩
    · rintro (a | ⟨a, b⟩)
      · exact .inl a
      · rcases h2 e x a with c | c
        · exact .inr ⟨c, b⟩
        · exact absurd c b
/-- What was had already need not be told. -/
theorem Made.shrink (h : Made t L S A 0 S' A' bad') (hr : Rel S A) (ht : t < 64) (h1 : ∀ x ∈ L', x ∈ L) (h2 : ∀ x ∈ L, x ∈ L' ∨ x ∈ (A t).have_) : Made t L' S A 0 S' A' bad' := by
  refine ⟨h.st, fun e => ?_, h.code, fun V hV hL hrm hq => ?_, fun V a1 a2 => h.least V a1 fun x hx => (h2 x hx).elim (a2 x) (a1 x), fun e e' V a1 a2 => h.quit e e' V a1 fun x hx => (h2 x hx).elim (a2 x) (a1 x), h.le, h.roomy⟩
  · obtain ⟨e0, a1, a2⟩ := h.ok e
    refine ⟨e0, fun x => ?_, fun x => ?_⟩
    · rw [a1]
      constructor
      · rintro (a | a)
        · exact .inl a
        · rcases h2 x a with b | b
          · exact .inr b
          · exact .inl b
      · rintro (a | a)
        · exact .inl a
        · exact .inr (h1 x a)
    · rw [a2]
      constructor
      · rintro (a | ⟨a, b⟩)
        · exact .inl a
        · rcases h2 x a with c | c
          · exact .inr ⟨c, b⟩
          · exact absurd c b
      · rintro (a | ⟨a, b⟩)
        · exact .inl a
        · exact .inr ⟨h1 x a, b⟩
  · refine h.enough V hV (fun x hx => ?_) hrm hq
    rcases h2 x hx with a | a
    · exact hL x a
    · obtain ⟨i, e, _, _, h3⟩ := (hr.own t ht x).1 a
      exact hV i x h3
/-- A hand that has failed does nothing. -/
theorem Made.none (h : Rel S A) (t : Nat) {bad : Int} (hb : bad ≠ 0) (L : List Thing) : Made t L S A bad S A bad :=
  ⟨St.refl h t, fun e => absurd e hb, .inl rfl, fun _V hV _ _ _ => ⟨rfl, hV, Stays.refl _ S⟩, fun _ h1 _ => h1, fun e => absurd e hb, id, fun _ => .inl rfl⟩

/-- The things that there are, each once. -/
theorem Rel.things (h : Rel S A) : ∃ V : List Thing, V.Nodup ∧ Within S V ∧ (V.length : Int) = S.live ∧ ∀ x ∈ V, ∃ i : Nat, DenT S i x := by
  rw [h.live, h.inv.cnt, List.countP_eq_length_filter]
  generalize hL : (List.range S.ents.length).filter (inIdx S) = I
  have hmem : ∀ i, i ∈ I ↔ ∃ e, S.ents[i]? = some e ∧ S.idx e.key = some (i : Int) := by
    intro i
    rw [← hL, List.mem_filter, List.mem_range]
    constructor
    · rintro ⟨h1, h2⟩
      cases he : S.ents[i]? with
      | none => unfold inIdx at h2; rw [he] at h2; cases h2
      | some e => rw [inIdx_eq he] at h2; exact ⟨e, rfl, of_decide_eq_true h2⟩
    · rintro ⟨e, h1, h2⟩
      exact ⟨(List.getElem?_eq_some_iff.1 h1).1, by rw [inIdx_eq h1]; exact decide_eq_true h2⟩
  have hnd : I.Nodup := by rw [← hL]; exact List.Pairwise.filter _ List.nodup_range
  have key : ∀ i : Nat, ∃ x : Thing, i ∈ I → DenT S i x := by
    intro i
    by_cases hi : i ∈ I
    · obtain ⟨e, h1, h2⟩ := (hmem i).1 hi
      obtain ⟨x, hx⟩ := h.good i e h1 h2
      exact ⟨x, fun _ => hx⟩
    · exact ⟨.note .dead 0 0, fun h => absurd h hi⟩
  obtain ⟨f, hf⟩ := Classical.axiomOfChoice key
  refine ⟨I.map f, nodup_map (fun a ha b hb e => ?_) hnd, fun i x hd => ?_, by rw [List.length_map], fun x hx => ?_⟩
  · have h1 := hf a ha
    have h2 := hf b hb
    rw [e] at h1
    exact DenT.inj h1 h2
  · obtain ⟨e, he, hx⟩ := hd.ent
    have hi : i ∈ I := (hmem i).2 ⟨e, he, hx⟩
    rw [DenT.fn h.inv hd (hf i hi)]
    exact List.mem_map.2 ⟨i, hi, rfl⟩
  · obtain ⟨i, hi, rfl⟩ := List.mem_map.1 hx
    exact ⟨i, hf i hi⟩
theorem Rel.live_le (h : Rel S A) {V : List Thing} (hV : Within S V) : S.live ≤ V.length := by
  obtain ⟨V0, h1, _, h3, h4⟩ := h.things
  have := List.Nodup.length_le_of_subset h1 (l₂ := V) fun x hx => by obtain ⟨i, hi⟩ := h4 x hx; exact hV i x hi
  omega
theorem Rel.have_in (h : Rel S A) (ht : t < 64) {V : List Thing} (hV : Within S V) : ∀ x ∈ (A t).have_, x ∈ V := fun x hx => by
  obtain ⟨i, e, _, _, h3⟩ := (h.own t ht x).1 hx
  exact hV i x h3
theorem Rel.nodes_has (h : Rel S A) (ht : t < 64) {T : Tree} (hh : Go.Proofs.Ytgdijlpkbbfedaa.hasT (A t).have_ T = true) : ∀ x ∈ nodes T, x ∈ (A t).have_ := Go.Proofs.Ytgdijlpkbbfedaa.nodes_has (h.ok t ht).closed hh
/-- Sweeping leaves the trees that somebody has. -/
theorem Rel.sweep_stay (h : Rel S A) {n : Nat} (hs : SweepR S S' n) : ∀ u, u < 64 → ∀ x id, Go.Proofs.Ytgdijlpkbbfedaa.hasT (A u).have_ x = true → Den S id x → Den S' id x := fun u hu x id hx hd =>
  Den.staysO h.inv (h.sweep hs).2.1 (h.ok u hu).closed (fun y hy => by
    obtain ⟨i, e, q1, q2, q3⟩ := (h.own u hu y).1 hy
    exact ⟨i, e, q1, testBit_ne q2, q3⟩) hx hd
theorem KeyT.stay {k : KeyA} {lv : Int} (hs : ∀ x id, Go.Proofs.Ytgdijlpkbbfedaa.hasT (A t).have_ x = true → Den S id x → Den S' id x) : ∀ {x : Thing}, kidsIn (A t).have_ x → KeyT S k lv x → KeyT S' k lv x
  | .sq .., hk, h => ⟨h.1, h.2.1, hs _ _ hk.1 h.2.2.1, hs _ _ hk.2.1 h.2.2.2.1, hs _ _ hk.2.2.1 h.2.2.2.2.1, hs _ _ hk.2.2.2 h.2.2.2.2.2⟩
  | .note .., hk, h => ⟨h.1, h.2.1, h.2.2.1, h.2.2.2.1, hs _ _ hk.1 h.2.2.2.2⟩
theorem ValT.stay {va : Int} (hs : ∀ x id, Go.Proofs.Ytgdijlpkbbfedaa.hasT (A t).have_ x = true → Den S id x → Den S' id x) : ∀ {x : Thing}, kidsIn (A t).have_ x → ValT S va x → ValT S' va x
  | .sq .., _, _ => trivial
  | .note .., hk, h => hs _ _ hk.2 h
/-- Behind a sweep, where others and one together have room, there is room. -/
theorem Rel.swept (h : Rel S A) (ht : t < 64) {n : Nat} (hs : SweepR S S' n) (hr : Roomy S A t) (hq : S.count t < S.quota t) : S'.live < S'.room := by
  obtain ⟨V0, h1, h2⟩ := hr
  obtain ⟨g1, _, _, g4, _⟩ := h.sweep hs
  obtain ⟨V, v1, v2, v3, v4⟩ := g1.things
  have hsub : ∀ x ∈ V, x ∈ V0 ++ (A t).have_ := fun x hx => by
    obtain ⟨i, hd⟩ := v4 x hx
    obtain ⟨e, he, hi⟩ := hd.ent
    have hm : e.mask ≠ 0 := by
      obtain ⟨S1, k1, rfl⟩ := hs
      have hf := k1.facts h.inv
      exact hf.clean i e (by rw [← hf.len]; exact (List.getElem?_eq_some_iff.1 he).1) he hi
    obtain ⟨u, hu, hub⟩ := mask_bit hm (g1.inv.keys e (List.mem_of_getElem? he)).2.2.2
    have hx2 := (g1.own u hu x).2 ⟨i, e, he, hub, hd⟩
    by_cases e2 : u = t
    · subst e2; exact List.mem_append_right _ hx2
    · exact List.mem_append_left _ (h1 u hu e2 x hx2)
  have := List.Nodup.length_le_of_subset v1 hsub
  rw [List.length_append] at this
  have hc := h.count ht
  omega
/-- What a new number may be. -/
theorem make_back (h : Rel S A) {i : Nat} {k : KeyA} {lv va : Int} (ht2 : TakeR S i S1) {j : Nat} {y : Thing} (hd : DenT (newS S1 i k lv va) j y) : j = i ∨ ∃ z, DenT S j z := by
  by_cases hj : j = i
  · exact .inl hj
  · obtain ⟨e, he, hx⟩ := hd.ent
    have hE : S1.ents[j]? = S.ents[j]? := by
      rcases ht2 with ⟨fr, hp, rfl⟩ | ⟨hf, hi, rfl⟩
      · rfl
      · show (S.ents ++ [zeroE])[j]? = _
        by_cases hl : j < S.ents.length
        · rw [List.getElem?_append_left hl]
        · rw [List.getElem?_eq_none (by simp; omega), List.getElem?_eq_none (by omega)]
    have he : (S1.ents.set i ⟨k, lv, va, 0⟩)[j]? = some e := he
    rw [List.getElem?_set_ne (Ne.symm hj), hE] at he
    have hx : (if e.key = k then some (i : Int) else S1.idx e.key) = some (j : Int) := hx
    split at hx
    · have := Option.some.inj hx; omega
    · rw [ht2.keeps.2.2.1] at hx
      obtain ⟨z, hz⟩ := h.good j e he hx
      exact .inr ⟨z, hz⟩
/-- What give does, in plain words, whatever room there is. -/
theorem Rel.giveG (h : Rel S A) (ht : t < 64) {k : KeyA} {lv va r c : Int} {x : Thing} (hk : k.ok) (hlv : 0 ≤ lv ∧ lv ≤ 44) (hx : KeyT S k lv x) (hv : ValT S va x) (hkid : kidsIn (A t).have_ x) (hg : GiveR S t k lv va r c S') :
    ∃ A', Made t [x] S A 0 S' A' c ∧ (c = 0 → ∃ i : Nat, r = i ∧ DenT S' i x) := by
  have hdn : ∀ {i : Nat} {e : EntD}, S.idx k = some (i : Int) → S.ents[i]? = some e → e.key = k ∧ DenT S i x := fun {i e} hi he => by
    have hek := h.inv.idx_of he hi
    obtain ⟨y, hy⟩ := h.good i e he (hek ▸ hi)
    have := KeyT.of h.inv he hek hx hy
    subst this
    exact ⟨hek, hy⟩
  have hup : ∀ {B : Abs}, x ∉ (A t).have_ → B = ⟨(A t).have_ ++ [x], (A t).added ++ [x]⟩ → (∀ y, y ∈ (upd A t B t).have_ ↔ y ∈ (A t).have_ ∨ y ∈ [x]) ∧ ∀ y, y ∈ (upd A t B t).added ↔ y ∈ (A t).added ∨ y ∈ [x] ∧ y ∉ (A t).have_ := by
    intro B hno hB
    subst hB
    refine ⟨fun y => by rw [upd_same, List.mem_append], fun y => ?_⟩
    rw [upd_same, List.mem_append, List.mem_singleton]
    constructor
    · rintro (a | a)
      · exact .inl a
      · exact .inr ⟨a, a ▸ hno⟩
    · rintro (a | ⟨a, _⟩)
      · exact .inl a
      · exact .inr a
  have hnw : ∀ {B : Abs}, x ∉ (A t).have_ → B = ⟨(A t).have_ ++ [x], (A t).added ++ [x]⟩ → ∀ y, y ∈ (upd A t B t).added ↔ y ∈ (A t).added ∨ y ∈ (upd A t B t).have_ ∧ y ∉ (A t).have_ := by
    intro B hno hB y
    obtain ⟨h1, h2⟩ := hup hno hB
    rw [h1, h2]
    by_cases a : y ∈ (A t).have_ <;> by_cases b : y ∈ [x] <;> simp [a, b]
  have hmo : ∀ {B : Abs}, B = ⟨(A t).have_ ++ [x], (A t).added ++ [x]⟩ → ∀ y ∈ (A t).have_, y ∈ (upd A t B t).have_ := by
    intro B hB y hy
    subst hB
    rw [upd_same]; exact List.mem_append_left _ hy
  have hlst : ∀ {B : Abs}, x ∉ (A t).have_ → B = ⟨(A t).have_ ++ [x], (A t).added ++ [x]⟩ → ∀ V : List Thing, (∀ y ∈ (A t).have_, y ∈ V) → (∀ y ∈ [x], y ∈ V) → ∀ y ∈ (upd A t B t).have_, y ∈ V := by
    intro B hno hB V a1 a2 y hy
    rcases ((hup hno hB).1 y).1 hy with a | a
    · exact a1 y a
    · exact a2 y a
  cases hg with
  | has i e hi he hb =>
    obtain ⟨hek, hd⟩ := hdn hi he
    have hm : x ∈ (A t).have_ := (h.own t ht x).2 ⟨i, e, he, hb, hd⟩
    exact ⟨A, (Made.refl h t 0).of (fun _ h => by cases h) (fun _ y hy => by rw [List.mem_singleton.1 hy]; exact .inr hm), fun _ => ⟨i, rfl, hd⟩⟩
  | much hno hq =>
    have hm : x ∉ (A t).have_ := fun hm => by
      obtain ⟨j, e, q1, q2, q3⟩ := (h.own t ht x).1 hm
      obtain ⟨e', q4, q5, q6⟩ := hx.key q3
      rw [q1] at q4; cases q4
      rw [hno j e q6 q1] at q2; cases q2
    rw [h.count ht] at hq
    have hnd : ((A t).have_ ++ [x]).Nodup := List.nodup_append.2 ⟨(h.ok t ht).nodup, by simp, fun a ha b hb => by
      rw [List.mem_singleton] at hb; subst hb; rintro rfl; exact hm ha⟩
    have hmore : ∀ V : List Thing, (∀ x ∈ (A t).have_, x ∈ V) → (∀ y ∈ [x], y ∈ V) → S.quota t < (V.length : Int) := fun V a1 a2 => by
      have := List.Nodup.length_le_of_subset hnd (l₂ := V) fun y hy => by
        rcases List.mem_append.1 hy with a | a
        · exact a1 y a
        · exact a2 y a
      rw [List.length_append, List.length_singleton] at this
      omega
    refine ⟨A, ⟨St.refl h t, (fun e => by cases e), .inr ⟨rfl, .inl rfl⟩, fun V hV hL hr hq2 => ?_, fun V a1 _ => a1, fun _ _ => hmore, id, fun _ => .inr rfl⟩, fun e => by cases e⟩
    have := hmore V (fun y hy => h.have_in ht hV y hy) hL
    omega
  | joins i e hi he hb hq =>
    obtain ⟨hek, hd⟩ := hdn hi he
    obtain ⟨hno, tw, hrel⟩ := h.gain ht he hb (hek ▸ hi) hd hkid
    refine ⟨_, ⟨⟨hrel, fun u hu => upd_ne _ _ hu, hmo rfl, fun ha u hu => ?_, fun u hu y id _ hd => tw.den.2 hd, by rw [gain_in he], by rw [gain_in he], hnw hno rfl⟩, fun _ => ⟨rfl, hup hno rfl⟩, .inl rfl, fun V hV hL hr hq => ⟨rfl, fun j y hd => hV j y (tw.denT.1 hd), tw.stays⟩, hlst hno rfl, (fun _ e => by cases e), fun _ => ?_, fun _ => .inl rfl⟩, fun _ => ⟨i, rfl, tw.denT.2 hd⟩⟩
    case refine_2 =>
      rw [gain_in he]
      show upd S.count t (S.count t + 1) t ≤ S.quota t
      rw [upd_same]; omega
    rw [gain_in he]
    show ((upd S.added t (S.added t ++ [(i : Int)]) u).length : Int) ≤ upd S.count t (S.count t + 1) u
    by_cases hut : u = t
    · subst hut
      rw [upd_same, upd_same, List.length_append, List.length_singleton]
      have := ha u hu; omega
    · rw [upd_ne _ _ hut, upd_ne _ _ hut]; exact ha u hu
  | full S0 n hn hq hr hs hr2 =>
    obtain ⟨s1, s2, s3, s4, s5⟩ := h.sweep hs
    have hkp := sweep_keeps h.inv hs
    refine ⟨A, ⟨⟨s1, fun _ _ => rfl, fun _ h => h, fun ha u hu => by rw [hkp.1, hkp.2.2.1]; exact ha u hu, h.sweep_stay hs, s3, s4, (St.refl h t).new⟩, (fun e => by cases e), .inr ⟨rfl, .inr rfl⟩, fun V hV hL hr3 hq2 => ?_, fun V a1 _ => a1, (fun _ e => by cases e), fun e => by rw [hkp.1, s3]; exact e, fun hr => ?_⟩, fun e => by cases e⟩
    · have := h.live_le hV; omega
    · have := h.swept ht hs hr hq; omega
  | makes S0 S1 i hn hq hs hr ht2 =>
    obtain ⟨h0, hst0, hq0, hr0, hc0, ha0, hn0⟩ : Rel S0 A ∧ (∀ u, u < 64 → ∀ x id, Go.Proofs.Ytgdijlpkbbfedaa.hasT (A u).have_ x = true → Den S id x → Den S0 id x) ∧ S0.quota = S.quota ∧ S0.room = S.room ∧ S0.count = S.count ∧ S0.added = S.added ∧ S0.idx k = none := by
      rcases hs with ⟨_, rfl⟩ | ⟨_, n, hs⟩
      · exact ⟨h, fun _ _ _ _ _ hd => hd, rfl, rfl, rfl, rfl, hn⟩
      · obtain ⟨s1, s2, s3, s4, s5⟩ := h.sweep hs
        have hkp := sweep_keeps h.inv hs
        exact ⟨s1, h.sweep_stay hs, s3, s4, hkp.1, hkp.2.2.1, hs.gone h.inv hn⟩
    have hx0 : KeyT S0 k lv x := KeyT.stay (A := A) (t := t) (fun y id hy hd => hst0 t ht y id hy hd) hkid hx
    have hv0 : ValT S0 va x := ValT.stay (A := A) (t := t) (fun y id hy hd => hst0 t ht y id hy hd) hkid hv
    obtain ⟨hrel, he, hi, hd, hst⟩ := h0.make (va := va) ht2 hk hlv hn0 hr hx0 hv0
    obtain ⟨hno, tw, hrel2⟩ := hrel.gain ht he (by simp) hi hd hkid
    obtain ⟨k1, k2, k3, k4, k5, k6, k7⟩ := ht2.keeps
    refine ⟨_, ⟨⟨hrel2, fun u hu => upd_ne _ _ hu, hmo rfl, fun ha u hu => ?_, fun u hu y id hy hd => tw.den.2 (Den.stays hst (hst0 u hu y id hy hd)), by rw [gain_in he]; exact k5.trans hq0, by rw [gain_in he]; exact k7.trans hr0, hnw hno rfl⟩, fun _ => ⟨rfl, hup hno rfl⟩, .inl rfl, fun V hV hL hr3 hq2 => ?_, hlst hno rfl, (fun _ e => by cases e), fun _ => ?_, fun _ => .inl rfl⟩, fun _ => ⟨i, rfl, tw.denT.2 hd⟩⟩
    case refine_3 =>
      rw [gain_in he]
      show upd S1.count t (S1.count t + 1) t ≤ S1.quota t
      rw [upd_same, k4, k5, hc0, hq0]; omega
    · rw [gain_in he]
      show ((upd S1.added t (S1.added t ++ [(i : Int)]) u).length : Int) ≤ upd S1.count t (S1.count t + 1) u
      rw [k6, k4, ha0, hc0]
      by_cases hut : u = t
      · subst hut
        rw [upd_same, upd_same, List.length_append, List.length_singleton]
        have := ha u hu; omega
      · rw [upd_ne _ _ hut, upd_ne _ _ hut]; exact ha u hu
    · rcases hs with ⟨_, rfl⟩ | ⟨hr2, _⟩
      · refine ⟨rfl, fun j y hdj => ?_, Stays.trans hst tw.stays⟩
        have hdj := tw.denT.1 hdj
        rcases make_back h0 ht2 hdj with rfl | ⟨z, hz⟩
        · rw [DenT.fn hrel.inv hdj hd]; exact hL x (List.mem_singleton.2 rfl)
        · rw [DenT.fn hrel.inv hdj (DenT.stays hst hz)]; exact hV j z hz
      · have := h.live_le hV; omega
/-- What Join does for quarters that the tenant has. -/
theorem Rel.joinG (h : Rel S A) (ht : t < 64) {a b c d : Tree} {q0 q1 q2 q3 r x : Int} {n : Int} (d0 : Den S q0 a) (d1 : Den S q1 b) (d2 : Den S q2 c) (d3 : Den S q3 d)
    (h0 : Go.Proofs.Ytgdijlpkbbfedaa.hasT (A t).have_ a = true) (h1 : Go.Proofs.Ytgdijlpkbbfedaa.hasT (A t).have_ b = true) (h2 : Go.Proofs.Ytgdijlpkbbfedaa.hasT (A t).have_ c = true) (h3 : Go.Proofs.Ytgdijlpkbbfedaa.hasT (A t).have_ d = true) (e0 : a.lvl = n) (e1 : b.lvl = n) (e2 : c.lvl = n) (e3 : d.lvl = n) (hn : n < 44) (hj : JoinR S t q0 q1 q2 q3 r x S') :
    ∃ A', Made t (nodes (.node a b c d)) S A 0 S' A' x ∧ (x = 0 → Den S' r (.node a b c d)) := by
  have o0 : ownsB S t q0 0 = true := by rw [h.owns ht d0]; exact h0
  have o1 : ownsB S t q1 0 = true := by rw [h.owns ht d1]; exact h1
  have o2 : ownsB S t q2 0 = true := by rw [h.owns ht d2]; exact h2
  have o3 : ownsB S t q3 0 = true := by rw [h.owns ht d3]; exact h3
  have l0 := d0.level h.inv
  have l1 := d1.level h.inv
  have l2 := d2.level h.inv
  have l3 := d3.level h.inv
  have four : ∀ j, j < 4 → j = 0 ∨ j = 1 ∨ j = 2 ∨ j = 3 := fun j hj => by omega
  cases hj with
  | none j hj ho =>
    exfalso
    rcases four j hj with rfl | rfl | rfl | rfl
    · rw [show qAt q0 q1 q2 q3 0 = q0 from rfl, o0] at ho; cases ho
    · rw [show qAt q0 q1 q2 q3 1 = q1 from rfl, o1] at ho; cases ho
    · rw [show qAt q0 q1 q2 q3 2 = q2 from rfl, o2] at ho; cases ho
    · rw [show qAt q0 q1 q2 q3 3 = q3 from rfl, o3] at ho; cases ho
  | level j _ hj hl =>
    exfalso
    rcases hl with hl | hl
    · rcases four j hj with rfl | rfl | rfl | rfl
      · exact hl rfl
      · exact hl (show levelOf S q1 = levelOf S q0 by omega)
      · exact hl (show levelOf S q2 = levelOf S q0 by omega)
      · exact hl (show levelOf S q3 = levelOf S q0 by omega)
    · omega
  | gives r x S' ho hl hlt hgr =>
    have hok : (⟨0, q0, q1, q2, q3⟩ : KeyA).ok := ⟨⟨by show (-9223372036854775808 : Int) ≤ 0; decide, by show (0 : Int) ≤ 9223372036854775807; decide⟩, own_i64 h.inv o0, own_i64 h.inv o1, own_i64 h.inv o2, own_i64 h.inv o3⟩
    have hl0 := a.lvl_pos
    obtain ⟨A', g1, g2⟩ := h.giveG ht (x := .sq a b c d) hok (by omega) ⟨rfl, by omega, d0, d1, d2, d3⟩ trivial ⟨h0, h1, h2, h3⟩ hgr
    refine ⟨A', g1.of (fun y hy => by rw [List.mem_singleton.1 hy]; exact mem_nodes.2 (.inl rfl)) (fun _ y hy => ?_), fun e => ?_⟩
    · rcases mem_nodes.1 hy with k | k | k | k | k
      · exact .inl (List.mem_singleton.2 k)
      · exact .inr (h.nodes_has ht h0 y k)
      · exact .inr (h.nodes_has ht h1 y k)
      · exact .inr (h.nodes_has ht h2 y k)
      · exact .inr (h.nodes_has ht h3 y k)
    · obtain ⟨i, rfl, hd⟩ := g2 e
      exact hd
end
end Go.Proofs.Ytgdijlpkbbfedaa

namespace Go.Proofs.Ytgdijlpkbbfedaa
open Go.RowKit

/-- What Kids tells. -/
def kidsA (S : ArS) (t : Nat) (id : Int) (e : Ending) : Prop :=
  (ownsB S t id 0 = false ∨ id < 2) ∧ e = .returned (.tuple #[.agg #[.int .i64 0, .int .i64 0, .int .i64 0, .int .i64 0], .int .i64 6]) ∨
  ∃ (i : Nat) (en : EntD), id = i ∧ 2 ≤ i ∧ S.ents[i]? = some en ∧ ownsB S t id 0 = true ∧ e = .returned (.tuple #[.agg #[.int .i64 en.key.a0, .int .i64 en.key.a1, .int .i64 en.key.a2, .int .i64 en.key.a3], .int .i64 0])

set_option maxRecDepth 100000 in
set_option maxHeartbeats 3200000 in
theorem kids_any (w : World) (p : Nat) (R : ArR) (S : ArS) (h : ArM w p R S) (hlen : 2 ≤ S.ents.length) (t : Nat) (ht : t < 64) (id : Int) :
    Calls Try.prog 55 #[.pointer (some ⟨p, 0, none⟩), .int .i64 t, .int .i64 id] w fun e w' => kidsA S t id e ∧ Below w.heap.size w w' := by
  have HA2 : Hid (ArM (w.alloc (.cells #[.int .i64 0, .int .i64 0, .int .i64 0, .int .i64 0] 50)) p R S) := h.alloc _
  obtain ⟨b, off, cap, hlv, hc1, hc2, hc, _⟩ := HA2.out.ents (by omega)
  have c0 := HA2.out.cList
  rw [hlv] at c0
  have HC := Lib.hid hc
  have k4 : (t : Int) < 64 := by omega
  have HO := Lib.hid (owns_any _ p R S HA2.out hlen t ht id 0)
  clear h hc hlv
  by_cases h2 : id < 2
  · have H2 := Lib.hid h2
    generalize hL : S.ents.length = n at *
    clear hL
    go_enter Try.func55, Try.ntmps55
    go_wp2_with fail
    (with_reducible refine (tenant_any _ t).mono ?_)
    rintro e wq ⟨rfl, rfl⟩
    rw [decide_eq_true (show 0 ≤ (t : Int) ∧ (t : Int) < 64 by omega)]
    go_wp2_with fail
    go_returns
    exact ⟨.inl ⟨.inr H2.out, rfl⟩, (Below.refl _ _).alloc (Nat.le_refl _) _⟩
  · cases hb : ownsB S t id 0
    · rw [hb] at HO
      have HB := Lib.hid hb
      clear hb
      generalize hL : S.ents.length = n at *
      clear hL
      go_enter Try.func55, Try.ntmps55
      go_wp2_with fail
      (with_reducible refine (tenant_any _ t).mono ?_)
      rintro e wq ⟨rfl, rfl⟩
      rw [decide_eq_true (show 0 ≤ (t : Int) ∧ (t : Int) < 64 by omega)]
      go_wp2_with fail
      (with_reducible refine HO.out.mono ?_)
      rintro e wq ⟨rfl, rfl⟩
      go_wp2_with fail
      go_returns
      exact ⟨.inl ⟨.inl HB.out, rfl⟩, (Below.refl _ _).alloc (Nat.le_refl _) _⟩
    · rw [hb] at HO
      obtain ⟨i, e, rfl, hi, he⟩ := owns_range hlen hb
      have c1 := HC.out i e 1 _ he rfl
      have c2 := HC.out i e 2 _ he rfl
      have c3 := HC.out i e 3 _ he rfl
      have c4 := HC.out i e 4 _ he rfl
      rw [show off + i * 8 + 2 = off + i * 8 + 1 + 1 from rfl] at c2
      rw [show off + i * 8 + 3 = off + i * 8 + 1 + 2 from rfl] at c3
      rw [show off + i * 8 + 4 = off + i * 8 + 1 + 3 from rfl] at c4
      have hil : (i : Int) < (S.ents.length : Int) := by omega
      have HB := Lib.hid hb
      have HE := Lib.hid he
      have HI : Hid (2 ≤ i) := by show 2 ≤ i; omega
      clear hi he hb
      generalize hL : S.ents.length = n at *
      clear hL
      go_enter Try.func55, Try.ntmps55
      go_wp2_with fail
      (with_reducible refine (tenant_any _ t).mono ?_)
      rintro e' wq ⟨rfl, rfl⟩
      rw [decide_eq_true (show 0 ≤ (t : Int) ∧ (t : Int) < 64 by omega)]
      go_wp2_with fail
      (with_reducible refine HO.out.mono ?_)
      rintro e' wq ⟨rfl, rfl⟩
      go_wp2_with fail
      go_returns
      exact ⟨.inr ⟨i, e, rfl, HI.out, HE.out, HB.out, rfl⟩, (Below.refl _ _).alloc (Nat.le_refl _) _⟩
end Go.Proofs.Ytgdijlpkbbfedaa

namespace Go.Proofs.Ytgdijlpkbbfedaa
open Go.RowKit

def handC (p t : Nat) (bad : Int) (more : List Value) : Array Value := (.pointer (some ⟨p, 0, none⟩) :: .int .i64 t :: .int .i64 bad :: more).toArray
theorem handC_set (p t : Nat) (bad x : Int) (more : List Value) : (handC p t bad more).setIfInBounds 2 (.int .i64 x) = handC p t x more := by
  unfold handC; simp
/-- A hand at work for a tenant. -/
structure Hd (w : World) (hb : Nat) (ty : TypeId) (more : List Value) (p : Nat) (R : ArR) (S : ArS) (A : Nat → Abs) (t : Nat) (bad : Int) : Prop where
  arm : ArM w p R S
  blk : Blk w hb ty (handC p t bad more)
  ne : ¬ Own p R hb
  rel : Rel S A
  add : ∀ u, u < 64 → ((S.added u).length : Int) ≤ S.count u
  ht : t < 64
/-- What a hand may have changed: the arena, and the blocks that X says. -/
structure StepH (X : Nat → Prop) (p : Nat) (R R' : ArR) (w w' : World) : Prop where
  mod : Mod (fun b => Own p R b ∨ X b) w w'
  own : ∀ b, Own p R' b → Own p R b ∨ w.heap.size ≤ b
section
variable {X Y : Nat → Prop} {p hb t : Nat} {R R1 R' : ArR} {w w1 w' : World} {S S' : ArS} {A A' : Nat → Abs} {ty : TypeId} {more : List Value} {bad bad' : Int}
theorem StepH.refl (X : Nat → Prop) (p : Nat) (R : ArR) (w : World) : StepH X p R R w w := ⟨Mod.refl _ _, fun _ h => .inl h⟩
theorem Step.toH (h : Step p R R' w w') (X : Nat → Prop) : StepH X p R R' w w' := ⟨h.mod.mono fun _ _ h => .inl h, h.own⟩
theorem StepH.trans (h : StepH X p R R1 w w1) (k : StepH X p R1 R' w1 w') : StepH X p R R' w w' :=
  ⟨h.mod.trans k.mod fun b hb ho => by
    rcases ho with ho | ho
    · rcases h.own b ho with h1 | h1
      · exact .inl h1
      · omega
    · exact .inr ho, fun b hb => by
    rcases k.own b hb with h1 | h1
    · exact h.own b h1
    · exact .inr (Nat.le_trans h.mod.size h1)⟩
theorem StepH.wide (h : StepH X p R R' w w') (hX : ∀ b, b < w.heap.size → X b → Y b) : StepH Y p R R' w w' :=
  ⟨h.mod.mono fun b hb ho => by
    rcases ho with ho | ho
    · exact .inl ho
    · exact .inr (hX b hb ho), h.own⟩
theorem StepH.drew (h : StepH X p R R' w w') : StepH X p R R' w w'.drew := ⟨h.mod.drew, h.own⟩
theorem StepH.alloc (h : StepH X p R R' w w') (o : Obj) : StepH X p R R' w (w'.alloc o) := ⟨h.mod.alloc o, h.own⟩
theorem StepH.set (h : StepH X p R R' w w') {q : Addr} (hq : q.block < w.heap.size → X q.block) (u : Value) : StepH X p R R' w (w'.setCell q u) := ⟨h.mod.set (fun hb => .inr (hq hb)) u, h.own⟩
theorem StepH.of_below (h : Below w.heap.size w w') : StepH X p R R w w' := ⟨(Mod.of_below_all h).mono fun _ _ h => h.elim, fun _ h => .inl h⟩
/-- What is neither the arena's nor X's stays so. -/
theorem StepH.not (h : StepH X p R R' w w') {b : Nat} (hb : b < w.heap.size) (ho : ¬ Own p R b) : ¬ Own p R' b := fun k => by
  rcases h.own b k with k | k
  · exact ho k
  · omega
theorem ArM.below (h : ArM w p R S) (hb : Below w.heap.size w w') : ArM w' p R S := h.keep (Mod.of_below_all hb) fun _ _ h => h
theorem Hd.inv (h : Hd w hb ty more p R S A t bad) : Inv S := h.rel.inv
theorem Hd.few (h : Hd w hb ty more p R S A t bad) : (S.added t).length ≤ 1000000 := by
  have := h.add t h.ht
  have := h.rel.inv.cnt_le h.ht
  omega
theorem Hd.below (h : Hd w hb ty more p R S A t bad) (hb' : Below w.heap.size w w') : Hd w' hb ty more p R S A t bad :=
  ⟨h.arm.below hb', h.blk.mod (Mod.of_below_all hb') (fun h => h), h.ne, h.rel, h.add, h.ht⟩
theorem Sl.below {t : TypeId} {sz n : Nat} {v : Value} {xs : List Value} (h : Sl w t sz v n xs) (hb : Below w.heap.size w w1) : Sl w1 t sz v n xs := h.mod (Mod.of_below_all hb) (fun _ _ h => h)
theorem Hd.drew (h : Hd w hb ty more p R S A t bad) : Hd w.drew hb ty more p R S A t bad := ⟨h.arm.drew, h.blk, h.ne, h.rel, h.add, h.ht⟩
theorem ArM.drewN (h : ArM w p R S) (d : Nat) : ArM (w.drewN d) p R S := ⟨h.blk, h.list, h.idx.of_block rfl, h.free, h.added, h.sep1, h.sep2, h.masks⟩
theorem Hd.alloc (h : Hd w hb ty more p R S A t bad) (o : Obj) : Hd (w.alloc o) hb ty more p R S A t bad := h.below ((Below.refl _ _).alloc (Nat.le_refl _) _)
theorem Hd.c0 (h : Hd w hb ty more p R S A t bad) : w.cell? ⟨hb, 0, none⟩ = some (.pointer (some ⟨p, 0, none⟩)) := h.blk.cellS rfl
theorem Hd.c1 (h : Hd w hb ty more p R S A t bad) : w.cell? ⟨hb, 1, none⟩ = some (.int .i64 t) := h.blk.cellS rfl
theorem Hd.c2 (h : Hd w hb ty more p R S A t bad) : w.cell? ⟨hb, 2, none⟩ = some (.int .i64 bad) := h.blk.cellS rfl
theorem Hd.f (h : Hd w hb ty more p R S A t bad) (j : Nat) : w.frozen? ⟨hb, j, none⟩ = false := h.blk.frozen j
/-- Another's block is written. -/
theorem ArM.far (h : ArM w p R S) {q : Addr} (hq : ¬ Own p R q.block) (u : Value) : ArM (w.setCell q u) p R S :=
  h.keep (T := fun b => b = q.block) ((Mod.refl (fun b => b = q.block) w).set (p := q) (fun _ => rfl) u) fun b hb e => by subst e; exact hq hb
/-- Behind the arena's work the hand keeps what it was told. -/
theorem Hd.step (h : Hd w hb ty more p R S A t bad) (ha : ArM w1 p R1 S') (hs : Step p R R1 w w1) (hst : St t S A S' A') (x : Int) : Hd (w1.setCell ⟨hb, 2, none⟩ (.int .i64 x)) hb ty more p R1 S' A' t x := by
  have hlt := h.blk.lt
  have hne : ¬ Own p R1 hb := (hs.toH (fun _ => False)).not hlt h.ne
  refine ⟨ha.far (q := ⟨hb, 2, none⟩) hne _, ?_, hne, hst.rel, hst.add h.add, h.ht⟩
  rw [← handC_set p t bad x more]
  exact (h.blk.mod hs.mod h.ne).set 2 _
theorem Hd.stepH (_h : Hd w hb ty more p R S A t bad) (hs : Step p R R1 w w1) (x : Int) : StepH (fun b => b = hb) p R R1 w (w1.setCell ⟨hb, 2, none⟩ (.int .i64 x)) := (hs.toH (fun b => b = hb)).set (q := ⟨hb, 2, none⟩) (fun _ => rfl) _
/-- Behind another's work. -/
theorem Hd.keep {T : Nat → Prop} (h : Hd w hb ty more p R S A t bad) (hm : Mod T w w') (h1 : ∀ b, Own p R b → ¬ T b) (h2 : ¬ T hb) : Hd w' hb ty more p R S A t bad :=
  ⟨h.arm.keep hm h1, h.blk.mod hm h2, h.ne, h.rel, h.add, h.ht⟩
end
theorem kept2 {p a b : Nat} {R R' : ArR} {w w' : World} (h : Step p R R' w.drew w') (ha : a < w.heap.size) (hna : ¬ Own p R a) (hb : b < w.heap.size) (hnb : ¬ Own p R b) :
    (∀ j, w'.cell? ⟨a, j, none⟩ = w.cell? ⟨a, j, none⟩) ∧ ∀ j, w'.cell? ⟨b, j, none⟩ = w.cell? ⟨b, j, none⟩ :=
  ⟨fun j => h.mod.cell (a := ⟨a, j, none⟩) ha hna, fun j => h.mod.cell (a := ⟨b, j, none⟩) hb hnb⟩
/-- The tenant's own number of a tree. -/
def Has (S : ArS) (A : Nat → Abs) (t : Nat) (id : Int) (T : Tree) : Prop := Den S id T ∧ hasT (A t).have_ T = true
theorem Has.st {S S' : ArS} {A A' : Nat → Abs} {t : Nat} {id : Int} {T : Tree} (h : Has S A t id T) (ht : t < 64) (hs : St t S A S' A') : Has S' A' t id T := ⟨hs.stay t ht T id h.2 h.1, hs.hasT h.2⟩
theorem Den.i64 {S : ArS} (hI : Inv S) {id : Int} {T : Tree} (h : Den S id T) : i64r id := by
  cases T with
  | dead => simp only [Den] at h; subst h; exact ⟨by decide, by decide⟩
  | alive => simp only [Den] at h; subst h; exact ⟨by decide, by decide⟩
  | node a b c d =>
    simp only [Den] at h
    obtain ⟨i, e, rfl, h1, _⟩ := h
    have := (List.getElem?_eq_some_iff.1 h1).1
    have := hI.lenN
    exact ⟨by omega, by omega⟩
/-- What a hand's function that makes squares gives. -/
def HandPost (w : World) (hb : Nat) (ty : TypeId) (more : List Value) (p : Nat) (R : ArR) (S : ArS) (A : Nat → Abs) (t : Nat) (bad : Int) (T : Tree) (e : Ending) (w' : World) : Prop :=
  ∃ (r : Int) (S' : ArS) (A' : Nat → Abs) (R' : ArR) (bad' : Int), e = .returned (.int .i64 r) ∧ Made t (nodes T) S A bad S' A' bad' ∧ (bad' = 0 → Has S' A' t r T) ∧ Hd w' hb ty more p R' S' A' t bad' ∧ StepH (fun b => b = hb) p R R' w w'

set_option maxRecDepth 100000 in
set_option maxHeartbeats 3200000 in
theorem hjoin_any (w : World) (hb : Nat) (ty : TypeId) (more : List Value) (p : Nat) (R : ArR) (S : ArS) (A : Nat → Abs) (t : Nat) (bad : Int) (h : Hd w hb ty more p R S A t bad)
    (q0 q1 q2 q3 : Int) (a b c d : Tree) (n : Int) (hq : bad = 0 → Has S A t q0 a ∧ Has S A t q1 b ∧ Has S A t q2 c ∧ Has S A t q3 d) (hl : a.lvl = n ∧ b.lvl = n ∧ c.lvl = n ∧ d.lvl = n) (hn : n < 44) :
    Calls Try.prog 43 #[.pointer (some ⟨hb, 0, none⟩), .agg #[.int .i64 q0, .int .i64 q1, .int .i64 q2, .int .i64 q3]] w (HandPost w hb ty more p R S A t bad (.node a b c d)) := by
  have H := Lib.hid h
  have HQ := Lib.hid hq
  have HL := Lib.hid hl
  clear h hq hl
  have H2 := Lib.hid (H.out.alloc (.cells #[.int .i64 q0, .int .i64 q1, .int .i64 q2, .int .i64 q3] 50))
  have HS2 : Hid (Step p R R w (w.alloc (.cells #[.int .i64 q0, .int .i64 q1, .int .i64 q2, .int .i64 q3] 50))) := (Step.refl p R w).alloc _
  have HB2 := Lib.hid (Blk.new w 50 #[.int .i64 q0, .int .i64 q1, .int .i64 q2, .int .i64 q3])
  have c2 := H2.out.c2
  by_cases hb0 : bad = 0
  · subst hb0
    have HQ0 := Lib.hid (HQ.out rfl)
    clear HQ
    go_enter Try.func43, Try.ntmps43
    go_wp2_with fail
    clear c2
    generalize World.alloc w _ = w2 at H2 HS2 HB2 ⊢
    have c0 := H2.out.c0
    have c1 := H2.out.c1
    have b0 := HB2.out.cellS (i := 0) rfl
    have b1 := HB2.out.cellS (i := 1) rfl
    have b2 := HB2.out.cellS (i := 2) rfl
    have b3 := HB2.out.cellS (i := 3) rfl
    have HJ := Lib.hid (join_any w2.drew p R S H2.out.arm.drew H2.out.inv H2.out.rel.live t H2.out.ht H2.out.few q0 q1 q2 q3)
    have HLT := Lib.hid H2.out.blk.lt
    have HLB := Lib.hid HB2.out.lt
    have HNB : Hid (¬ Own p R w.heap.size) := fun ho => Nat.lt_irrefl _ (H.out.arm.own_lt ho)
    go_region_held3 (fun w' => w'.cell? ⟨hb, 0, none⟩ = some (.pointer (some ⟨p, 0, none⟩)) ∧ w'.cell? ⟨hb, 1, none⟩ = some (.int .i64 t) ∧ w'.cell? ⟨w.heap.size, 0, none⟩ = some (.int .i64 q0) ∧ w'.cell? ⟨w.heap.size, 1, none⟩ = some (.int .i64 q1) ∧ w'.cell? ⟨w.heap.size, 2, none⟩ = some (.int .i64 q2) ∧ w'.cell? ⟨w.heap.size, 3, none⟩ = some (.int .i64 q3))
      (first | exact ⟨c0, c1, b0, b1, b2, b3⟩ | exact ⟨e0, e1, e2, e3, e4, e5⟩ | go_keep)
      ((go_at_call 20; refine HJ.out.mono ?_; rintro e w3 ⟨r, x, S', R', rfl, hj, hA3, hs3⟩; obtain ⟨k1, k2⟩ := kept2 hs3 HLT.out H2.out.ne HLB.out HNB.out; have e0 := (k1 0).trans c0; have e1 := (k1 1).trans c1; have e2 := (k2 0).trans b0; have e3 := (k2 1).trans b1; have e4 := (k2 2).trans b2; have e5 := (k2 3).trans b3; clear k1 k2))
    obtain ⟨A', hm, hd⟩ := H2.out.rel.joinG (n := n) H2.out.ht HQ0.out.1.1 HQ0.out.2.1.1 HQ0.out.2.2.1.1 HQ0.out.2.2.2.1 HQ0.out.1.2 HQ0.out.2.1.2 HQ0.out.2.2.1.2 HQ0.out.2.2.2.2 HL.out.1 HL.out.2.1 HL.out.2.2.1 HL.out.2.2.2 hn hj
    have HM := Lib.hid hm
    have HD : Hid (x = 0 → Has S' A' t r (.node a b c d)) := fun e => ⟨hd e, has_nodes fun y hy => ((hm.ok e).2.1 y).2 (.inr hy)⟩
    have HE := Lib.hid (H2.out.drew.step hA3 hs3 hm.st x)
    have HS3 := Lib.hid ((HS2.out.toH (fun b => b = hb)).drew.trans (H2.out.drew.stepH hs3 x))
    have e6 := (hs3.mod.cell (a := ⟨hb, 2, none⟩) HLT.out H2.out.ne).trans (H2.out.drew.c2)
    have f6 := (hs3.mod.frozen (a := ⟨hb, 2, none⟩) HLT.out H2.out.ne).trans (H2.out.drew.f 2)
    clear hm hd hj hA3 hs3 e0 e1 e2 e3 e4 e5 c0 c1 b0 b1 b2 b3
    go_wp2_with fail
    go_returns
    exact ⟨r, S', A', R', x, rfl, HM.out, HD.out, HE.out, HS3.out⟩
  · have hb1 : (bad == 0) = false := beq_eq_false_iff_ne.2 hb0
    have HB0 := Lib.hid hb0
    clear hb0
    go_enter Try.func43, Try.ntmps43
    go_wp2_with fail
    go_returns
    exact ⟨0, S, A, R, bad, rfl, Made.none H.out.rel t HB0.out _, fun e => absurd e HB0.out, H2.out, HS2.out.toH _⟩
end Go.Proofs.Ytgdijlpkbbfedaa

namespace Go.Proofs.Ytgdijlpkbbfedaa
open Go.RowKit

theorem kids_has {S : ArS} {A : Nat → Abs} {t : Nat} {id : Int} {a b c d : Tree} {e : Ending} (hr : Rel S A) (ht : t < 64) (h : Has S A t id (.node a b c d)) (hk : kidsA S t id e) :
    ∃ k0 k1 k2 k3 : Int, e = .returned (.tuple #[.agg #[.int .i64 k0, .int .i64 k1, .int .i64 k2, .int .i64 k3], .int .i64 0]) ∧ Has S A t k0 a ∧ Has S A t k1 b ∧ Has S A t k2 c ∧ Has S A t k3 d := by
  obtain ⟨hd, hh⟩ := h
  have ho := hr.owns ht hd
  have hm : Thing.sq a b c d ∈ (A t).have_ := of_decide_eq_true hh
  obtain ⟨h0, h1, h2, h3⟩ := (hr.ok t ht).closed _ hm
  rw [hh] at ho
  have hd2 := hd
  simp only [Den] at hd
  obtain ⟨i, en, rfl, g1, g2, g3, g4, d0, d1, d2, d3⟩ := hd
  rcases hk with ⟨hk, _⟩ | ⟨i', en', q1, q2, q3, q4, rfl⟩
  · rcases hk with hk | hk
    · rw [ho] at hk; cases hk
    · have := hr.inv.two g2; omega
  · have : i = i' := by omega
    subst this
    rw [g1] at q3; cases q3
    exact ⟨_, _, _, _, rfl, ⟨d0, h0⟩, ⟨d1, h1⟩, ⟨d2, h2⟩, ⟨d3, h3⟩⟩
def KidsPost (w : World) (hb : Nat) (ty : TypeId) (more : List Value) (p : Nat) (R : ArR) (S : ArS) (A : Nat → Abs) (t : Nat) (bad : Int) (a b c d : Tree) (e : Ending) (w' : World) : Prop :=
  ∃ k0 k1 k2 k3 : Int, e = .returned (.agg #[.int .i64 k0, .int .i64 k1, .int .i64 k2, .int .i64 k3]) ∧ (bad = 0 → Has S A t k0 a ∧ Has S A t k1 b ∧ Has S A t k2 c ∧ Has S A t k3 d) ∧ (bad ≠ 0 → k0 = 0 ∧ k1 = 0 ∧ k2 = 0 ∧ k3 = 0) ∧ Hd w' hb ty more p R S A t bad ∧ StepH (fun b => b = hb) p R R w w'

/-- A row of four numbers is copied out of a call. -/
structure Mid4 (w : World) (hb : Nat) (ty : TypeId) (more : List Value) (p : Nat) (R : ArR) (S : ArS) (A : Nat → Abs) (t : Nat) (k0 k1 k2 k3 : Int) (w5 : World) (qb : Nat) : Prop where
  hd : Hd w5 hb ty more p R S A t 0
  q : Blk w5 qb 50 #[.int .i64 k0, .int .i64 k1, .int .i64 k2, .int .i64 k3]
  r : Blk w5 w.heap.size 50 #[.int .i64 0, .int .i64 0, .int .i64 0, .int .i64 0]
  ne1 : qb ≠ w.heap.size
  ne2 : hb ≠ qb
  ne3 : hb ≠ w.heap.size
  st : StepH (fun b => b = hb) p R R w w5
section
variable {w w2 w3 : World} {hb : Nat} {ty : TypeId} {more : List Value} {p : Nat} {R : ArR} {S : ArS} {A : Nat → Abs} {t : Nat} {k0 k1 k2 k3 : Int}
theorem StepH.below {X : Nat → Prop} {R' : ArR} (h : StepH X p R R' w w2) (hb : Below w2.heap.size w2 w3) : StepH X p R R' w w3 := h.trans (StepH.of_below hb)
theorem mid4_a (H : Hd w hb ty more p R S A t 0) (H2 : Hd w2 hb ty more p R S A t 0) (hs : StepH (fun b => b = hb) p R R w w2) (hr : Blk w2 w.heap.size 50 #[.int .i64 0, .int .i64 0, .int .i64 0, .int .i64 0]) (hb3 : Below w2.drew.heap.size w2.drew w3) :
    Mid4 w hb ty more p R S A t k0 k1 k2 k3 (w3.alloc (.cells #[.int .i64 k0, .int .i64 k1, .int .i64 k2, .int .i64 k3] 50)) w3.heap.size := by
  have h1 := hr.lt
  have h2 := hb3.size
  have h3 := H.blk.lt
  have h4 : w2.heap.size ≤ w3.heap.size := h2
  exact ⟨(H2.drew.below hb3).alloc _, Blk.new _ _ _, (hr.drew.mod (Mod.of_below_all hb3) (fun h => h)).alloc _, by omega, by omega, by omega, (hs.drew.below hb3).alloc _⟩
theorem keep_w4 {z : Nat} {v0 v1 : Value} (hne : hb ≠ z) (e0 : w.cell? ⟨hb, 0, none⟩ = some v0) (e1 : w.cell? ⟨hb, 1, none⟩ = some v1) (u0 u1 u2 u3 : Value) :
    ((((w.setCell ⟨z, 0, none⟩ u0).setCell ⟨z, 1, none⟩ u1).setCell ⟨z, 2, none⟩ u2).setCell ⟨z, 3, none⟩ u3).cell? ⟨hb, 0, none⟩ = some v0 ∧ ((((w.setCell ⟨z, 0, none⟩ u0).setCell ⟨z, 1, none⟩ u1).setCell ⟨z, 2, none⟩ u2).setCell ⟨z, 3, none⟩ u3).cell? ⟨hb, 1, none⟩ = some v1 := by
  have key : ∀ j, ((((w.setCell ⟨z, 0, none⟩ u0).setCell ⟨z, 1, none⟩ u1).setCell ⟨z, 2, none⟩ u2).setCell ⟨z, 3, none⟩ u3).cell? ⟨hb, j, none⟩ = w.cell? ⟨hb, j, none⟩ := fun j =>
    World.cell?_of_block (a := ⟨hb, j, none⟩) (by
      show _ = w.heap[hb]?
      rw [Below.heap_setCell _ _ _ _ hne, Below.heap_setCell _ _ _ _ hne, Below.heap_setCell _ _ _ _ hne, Below.heap_setCell _ _ _ _ hne])
  exact ⟨(key 0).trans e0, (key 1).trans e1⟩
theorem mid4_b (H : Hd w hb ty more p R S A t 0) (H2 : Hd w2 hb ty more p R S A t 0) (hs : StepH (fun b => b = hb) p R R w w2) (hr : Blk w2 w.heap.size 50 #[.int .i64 0, .int .i64 0, .int .i64 0, .int .i64 0])
    (hb3 : Below (w2.alloc (.cells #[.int .i64 0, .int .i64 0, .int .i64 0, .int .i64 0] 50)).drew.heap.size (w2.alloc (.cells #[.int .i64 0, .int .i64 0, .int .i64 0, .int .i64 0] 50)).drew w3) :
    Mid4 w hb ty more p R S A t k0 k1 k2 k3 ((((w3.setCell ⟨w2.heap.size, 0, none⟩ (.int .i64 k0)).setCell ⟨w2.heap.size, 1, none⟩ (.int .i64 k1)).setCell ⟨w2.heap.size, 2, none⟩ (.int .i64 k2)).setCell ⟨w2.heap.size, 3, none⟩ (.int .i64 k3)) w2.heap.size := by
  have h1 := hr.lt
  have h3 := H.blk.lt
  have hm := Mod.of_below_all hb3
  have hz := ((Blk.new w2 50 #[.int .i64 0, .int .i64 0, .int .i64 0, .int .i64 0]).drew.mod hm (fun h => h))
  have hz4 := (((hz.set 0 (.int .i64 k0)).set 1 (.int .i64 k1)).set 2 (.int .i64 k2)).set 3 (.int .i64 k3)
  have h5 := (H2.alloc (.cells #[.int .i64 0, .int .i64 0, .int .i64 0, .int .i64 0] 50)).drew.below hb3
  have hm4 : Mod (fun b => b = w2.heap.size) w3 ((((w3.setCell ⟨w2.heap.size, 0, none⟩ (.int .i64 k0)).setCell ⟨w2.heap.size, 1, none⟩ (.int .i64 k1)).setCell ⟨w2.heap.size, 2, none⟩ (.int .i64 k2)).setCell ⟨w2.heap.size, 3, none⟩ (.int .i64 k3)) :=
    ((((Mod.refl (fun b => b = w2.heap.size) w3).set (p := ⟨w2.heap.size, 0, none⟩) (fun _ => rfl) _).set (p := ⟨w2.heap.size, 1, none⟩) (fun _ => rfl) _).set (p := ⟨w2.heap.size, 2, none⟩) (fun _ => rfl) _).set (p := ⟨w2.heap.size, 3, none⟩) (fun _ => rfl) _
  have h6 : ¬ Own p R w2.heap.size := fun ho => Nat.lt_irrefl _ (H2.arm.own_lt ho)
  have h7 := hs.mod.size
  have h8 := hb3.size
  have h9 : w2.heap.size < w3.heap.size := hz.lt
  refine ⟨h5.keep hm4 (fun b hb e => by subst e; exact h6 hb) (by omega), hz4, ?_, by omega, by omega, by omega, ?_⟩
  · exact (((hr.alloc _).drew.mod hm (fun h => h)).mod hm4 (by omega))
  · have s1 := (hs.alloc (.cells #[.int .i64 0, .int .i64 0, .int .i64 0, .int .i64 0] 50)).drew.below hb3
    exact ⟨s1.mod.trans hm4 (fun b hb e => by omega), s1.own⟩
theorem Mid4.set {w5 : World} {qb : Nat} (h : Mid4 w hb ty more p R S A t k0 k1 k2 k3 w5 qb) : Mid4 w hb ty more p R S A t k0 k1 k2 k3 (w5.setCell ⟨hb, 2, none⟩ (.int .i64 0)) qb :=
  ⟨⟨h.hd.arm.far (q := ⟨hb, 2, none⟩) h.hd.ne _, by rw [← handC_set p t 0 0 more]; exact h.hd.blk.set 2 _, h.hd.ne, h.hd.rel, h.hd.add, h.hd.ht⟩, h.q.far (p := ⟨hb, 2, none⟩) (Ne.symm h.ne2) _, h.r.far (p := ⟨hb, 2, none⟩) (Ne.symm h.ne3) _, h.ne1, h.ne2, h.ne3, h.st.set (q := ⟨hb, 2, none⟩) (fun _ => rfl) _⟩
theorem Mid4.fin {w5 : World} {qb : Nat} (H : Hd w hb ty more p R S A t 0) (h : Mid4 w hb ty more p R S A t k0 k1 k2 k3 w5 qb) (u0 u1 u2 u3 : Value) :
    Blk ((((w5.setCell ⟨w.heap.size, 0, none⟩ u0).setCell ⟨w.heap.size, 1, none⟩ u1).setCell ⟨w.heap.size, 2, none⟩ u2).setCell ⟨w.heap.size, 3, none⟩ u3) w.heap.size 50 #[u0, u1, u2, u3] ∧ Hd ((((w5.setCell ⟨w.heap.size, 0, none⟩ u0).setCell ⟨w.heap.size, 1, none⟩ u1).setCell ⟨w.heap.size, 2, none⟩ u2).setCell ⟨w.heap.size, 3, none⟩ u3) hb ty more p R S A t 0 ∧ StepH (fun b => b = hb) p R R w ((((w5.setCell ⟨w.heap.size, 0, none⟩ u0).setCell ⟨w.heap.size, 1, none⟩ u1).setCell ⟨w.heap.size, 2, none⟩ u2).setCell ⟨w.heap.size, 3, none⟩ u3) := by
  have hm4 : Mod (fun b => b = w.heap.size) w5 ((((w5.setCell ⟨w.heap.size, 0, none⟩ u0).setCell ⟨w.heap.size, 1, none⟩ u1).setCell ⟨w.heap.size, 2, none⟩ u2).setCell ⟨w.heap.size, 3, none⟩ u3) :=
    ((((Mod.refl (fun b => b = w.heap.size) w5).set (p := ⟨w.heap.size, 0, none⟩) (fun _ => rfl) _).set (p := ⟨w.heap.size, 1, none⟩) (fun _ => rfl) _).set (p := ⟨w.heap.size, 2, none⟩) (fun _ => rfl) _).set (p := ⟨w.heap.size, 3, none⟩) (fun _ => rfl) _
  have h6 : ¬ Own p R w.heap.size := fun ho => Nat.lt_irrefl _ (H.arm.own_lt ho)
  exact ⟨(((h.r.set 0 u0).set 1 u1).set 2 u2).set 3 u3, h.hd.keep hm4 (fun b hb e => by subst e; exact h6 hb) h.ne3, h.st.mod.trans hm4 (fun b hb e => by omega), h.st.own⟩
end

set_option maxRecDepth 100000 in
set_option maxHeartbeats 3200000 in
theorem hkids_any (w : World) (hb : Nat) (ty : TypeId) (more : List Value) (p : Nat) (R : ArR) (S : ArS) (A : Nat → Abs) (t : Nat) (bad : Int) (h : Hd w hb ty more p R S A t bad)
    (id : Int) (a b c d : Tree) (hq : bad = 0 → Has S A t id (.node a b c d)) :
    Calls Try.prog 44 #[.pointer (some ⟨hb, 0, none⟩), .int .i64 id] w (KidsPost w hb ty more p R S A t bad a b c d) := by
  have H2 := Lib.hid (h.alloc (.cells #[.int .i64 0, .int .i64 0, .int .i64 0, .int .i64 0] 50))
  have HS2 : Hid (StepH (fun b => b = hb) p R R w (w.alloc (.cells #[.int .i64 0, .int .i64 0, .int .i64 0, .int .i64 0] 50))) := (StepH.refl _ p R w).alloc _
  have HB2 := Lib.hid (Blk.new w 50 #[.int .i64 0, .int .i64 0, .int .i64 0, .int .i64 0])
  have H := Lib.hid h
  have c2 := H2.out.c2
  clear h
  by_cases hb0 : bad = 0
  · subst hb0
    have HQ0 := Lib.hid (hq rfl)
    clear hq
    go_enter Try.func44, Try.ntmps44
    go_wp2_with fail
    clear c2
    generalize World.alloc w _ = w2 at H2 HS2 HB2 ⊢
    have c0 := H2.out.c0
    have c1 := H2.out.c1
    have HK := Lib.hid (fun W hA => kids_any W p R S hA H2.out.inv.len t H2.out.ht id)
    have HLT := Lib.hid H2.out.blk.lt
    have HNE : Hid (hb ≠ w2.heap.size) := by have := HLT.out; show hb ≠ w2.heap.size; omega
    go_region_held3 (fun w' => w'.cell? ⟨hb, 0, none⟩ = some (.pointer (some ⟨p, 0, none⟩)) ∧ w'.cell? ⟨hb, 1, none⟩ = some (.int .i64 t))
      (first | (with_reducible exact ⟨c0, c1⟩) | (with_reducible exact ⟨e0, e1⟩) | (with_reducible exact keep_w4 HNE.out e0 e1 _ _ _ _) | go_keep)
      (first
        | (go_at_call 55; refine (HK.out _ (by exact H2.out.arm.drew)).mono ?_; rintro e w3 ⟨hk, hb3⟩; obtain ⟨k0, k1, k2, k3, rfl, h0, h1, h2, h3⟩ := kids_has H2.out.rel H2.out.ht HQ0.out hk; have e0 := (hb3.cell (p := ⟨hb, 0, none⟩) HLT.out).trans c0; have e1 := (hb3.cell (p := ⟨hb, 1, none⟩) HLT.out).trans c1; have HM := Lib.hid (mid4_a (k0 := k0) (k1 := k1) (k2 := k2) (k3 := k3) H.out H2.out HS2.out HB2.out hb3))
        | (go_at_call 55; refine (HK.out _ (by exact (H2.out.arm.alloc _).drew)).mono ?_; rintro e w3 ⟨hk, hb3⟩; obtain ⟨k0, k1, k2, k3, rfl, h0, h1, h2, h3⟩ := kids_has H2.out.rel H2.out.ht HQ0.out hk; have hlt1 : (⟨hb, 0, none⟩ : Addr).block < (w2.alloc (.cells #[.int .i64 0, .int .i64 0, .int .i64 0, .int .i64 0] 50)).drew.heap.size := (H2.out.alloc _).blk.lt; have e0 := (hb3.cell (p := ⟨hb, 0, none⟩) hlt1).trans ((World.cell?_alloc_lt w2 _ ⟨hb, 0, none⟩ HLT.out).trans c0); have e1 := (hb3.cell (p := ⟨hb, 1, none⟩) hlt1).trans ((World.cell?_alloc_lt w2 _ ⟨hb, 1, none⟩ HLT.out).trans c1); have HM := Lib.hid (mid4_b (k0 := k0) (k1 := k1) (k2 := k2) (k3 := k3) H.out H2.out HS2.out HB2.out hb3); have HZ := Lib.hid ((Blk.new w2 50 #[.int .i64 0, .int .i64 0, .int .i64 0, .int .i64 0]).drew.mod (Mod.of_below_all hb3) (fun h => h)); have z0 := HZ.out.cellS (i := 0) rfl; have z1 := HZ.out.cellS (i := 1) rfl; have z2 := HZ.out.cellS (i := 2) rfl; have z3 := HZ.out.cellS (i := 3) rfl; have f0 := HZ.out.frozen 0; have f1 := HZ.out.frozen 1; have f2 := HZ.out.frozen 2; have f3 := HZ.out.frozen 3))
    all_goals clear c0 c1 e0 e1 hk HK HLT HNE H2 HS2 HB2
    all_goals (first
      | (clear z0 z1 z2 z3 f0 f1 f2 f3 HZ
         generalize World.setCell _ _ _ = w5 at HM ⊢
         generalize w2.heap.size = qb at HM ⊢)
      | (generalize World.alloc w3 _ = w5 at HM ⊢
         generalize w3.heap.size = qb at HM ⊢))
    all_goals (
      have c2 := HM.out.hd.c2
      have f2 := HM.out.hd.f 2
      have HM6 := Lib.hid HM.out.set
      have q0 := HM6.out.q.cellS (i := 0) rfl
      have q1 := HM6.out.q.cellS (i := 1) rfl
      have q2 := HM6.out.q.cellS (i := 2) rfl
      have q3 := HM6.out.q.cellS (i := 3) rfl
      have r0 := HM6.out.r.cellS (i := 0) rfl
      have r1 := HM6.out.r.cellS (i := 1) rfl
      have r2 := HM6.out.r.cellS (i := 2) rfl
      have r3 := HM6.out.r.cellS (i := 3) rfl
      have g0 := HM6.out.r.frozen 0
      have g1 := HM6.out.r.frozen 1
      have g2 := HM6.out.r.frozen 2
      have g3 := HM6.out.r.frozen 3
      have HF := Lib.hid (HM6.out.fin H.out (.int .i64 k0) (.int .i64 k1) (.int .i64 k2) (.int .i64 k3))
      have H01 : Hid (Has S A t k0 a ∧ Has S A t k1 b ∧ Has S A t k2 c ∧ Has S A t k3 d) := ⟨h0, h1, h2, h3⟩
      clear h0 h1 h2 h3
      go_wp2_with fail
      clear c2 f2 q0 q1 q2 q3 r0 r1 r2 r3 g0 g1 g2 g3 HM6
      generalize World.setCell _ _ _ = w7 at HF ⊢
      have s0 : w7.cell? ⟨w.heap.size, 0, none⟩ = some (.int .i64 k0) := HF.out.1.cellS (i := 0) rfl
      have s1 : w7.cell? ⟨w.heap.size, 1, none⟩ = some (.int .i64 k1) := HF.out.1.cellS (i := 1) rfl
      have s2 : w7.cell? ⟨w.heap.size, 2, none⟩ = some (.int .i64 k2) := HF.out.1.cellS (i := 2) rfl
      have s3 : w7.cell? ⟨w.heap.size, 3, none⟩ = some (.int .i64 k3) := HF.out.1.cellS (i := 3) rfl
      exact bodyPost_ret (v := .agg #[.int .i64 k0, .int .i64 k1, .int .i64 k2, .int .i64 k3]) (by simp [results, Try.results44, go_sem, s0, s1, s2, s3]) rfl ⟨k0, k1, k2, k3, rfl, fun _ => H01.out, fun e => absurd rfl e, HF.out.2.1, HF.out.2.2⟩)
  · have hb1 : (bad == 0) = false := beq_eq_false_iff_ne.2 hb0
    have HB0 := Lib.hid hb0
    clear hb0 hq
    go_enter Try.func44, Try.ntmps44
    go_wp2_with fail
    go_returns
    exact ⟨0, 0, 0, 0, rfl, fun e => absurd e HB0.out, fun _ => ⟨rfl, rfl, rfl, rfl⟩, H2.out, HS2.out⟩
end Go.Proofs.Ytgdijlpkbbfedaa
