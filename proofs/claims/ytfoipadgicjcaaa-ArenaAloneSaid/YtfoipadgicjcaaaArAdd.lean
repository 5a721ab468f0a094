/- arena: one more thing that a tenant was given. -/
import Derived.Test.YtfoipadgicjcaaaArSweep
namespace Go.Proofs.Ytfoipadgicjcaaa
open Go.RowKit

section
variable {w w' : World} {p : Nat} {R : ArR} {S : ArS}
/-- What a tenant was given is another list: written beside, then named. -/
theorem ArM.readd (h : ArM w p R S) {t : Nat} (ht : t < 64) {w1 : World} {v' : Value} {l : List Int} (hm : Mod (fun b => sblk (R.av t) = some b) w w1) (hs : Sl w1 IT 1 v' l.length (intsV l)) (hn : sblk v' = sblk (R.av t) ∨ ∃ q, sblk v' = some q ∧ w.heap.size ≤ q) :
    ArM (w1.setCell ⟨p, 132 + t, none⟩ v') p { R with av := upd R.av t v' } { S with added := upd S.added t l } ∧ Step p R { R with av := upd R.av t v' } w (w1.setCell ⟨p, 132 + t, none⟩ v') ∧ w1.cell? ⟨p, 132 + t, none⟩ = some (R.av t) ∧ w1.frozen? ⟨p, 132 + t, none⟩ = false := by
  obtain ⟨n1, n2, n3, n4⟩ := h.p_ne
  have hp := h.blk.lt
  have hvp : sblk v' ≠ some p := by
    rcases hn with h1 | ⟨q, h1, h2⟩
    · rw [h1]; exact n4 t ht
    · rw [h1]; intro e; have := Option.some.inj e; omega
  have hM : Mod (fun b => b = p ∨ sblk (R.av t) = some b) w (w1.setCell ⟨p, 132 + t, none⟩ v') := (hm.mono fun b _ hx => .inr hx).set (p := ⟨p, 132 + t, none⟩) (fun _ => .inl rfl) _
  refine ⟨⟨by rw [← arCells_added R S ht v' l]; exact Blk.set (b := p) (t := AR) ((hm.block p hp (n4 t ht)).trans h.blk) _ _, h.list.mod hM fun b hb hx => ?_, h.idx.of_block (hM.block _ h.idx.lt fun hx => ?_), h.free.mod hM fun b hb hx => ?_, fun k hk => ?_, fun k hk b hb => ?_, fun k k' hk hk' hne b hb => ?_, h.masks⟩, ⟨hM.mono fun b _ hx => ?_, fun b hb => ?_⟩, ?_, ?_⟩
  · rcases hx with rfl | hx
    · exact n2 hb
    · exact (h.list_ne hb).2.2.2 t ht hx
  · rcases hx with hx | hx
    · exact n1 hx.symm
    · exact h.mb_ne.2.2 t ht hx
  · rcases hx with rfl | hx
    · exact n3 hb
    · exact h.sep1 t ht b hb hx
  · show Sl _ IT 1 (upd R.av t v' k) (upd S.added t l k).length (intsV (upd S.added t l k))
    by_cases e : k = t
    · subst e; rw [upd_same, upd_same]; exact hs.far (p := ⟨p, 132 + k, none⟩) hvp _
    · rw [upd_ne _ _ e, upd_ne _ _ e]
      refine (h.added k hk).mod hM fun b hb hx => ?_
      rcases hx with rfl | hx
      · exact n4 k hk hb
      · exact h.sep2 k t hk ht e b hb hx
  · show sblk (upd R.av t v' k) ≠ some b
    by_cases e : k = t
    · subst e; rw [upd_same]; intro e2
      rcases hn with h1 | ⟨q, h1, h2⟩
      · rw [h1] at e2; exact h.sep1 k hk b hb e2
      · rw [h1] at e2; have := Option.some.inj e2; have := (h.free.lt hb).1; omega
    · rw [upd_ne _ _ e]; exact h.sep1 k hk b hb
  · change sblk (upd R.av t v' k) = some b at hb
    show sblk (upd R.av t v' k') ≠ some b
    by_cases e : k = t
    · subst e
      rw [upd_same] at hb
      rw [upd_ne _ _ (Ne.symm hne)]
      intro e2
      rcases hn with h1 | ⟨q, h1, h2⟩
      · rw [h1] at hb; exact h.sep2 k k' hk hk' hne b hb e2
      · rw [h1] at hb; have := Option.some.inj hb; have := ((h.added k' hk').lt e2).1; omega
    · rw [upd_ne _ _ e] at hb
      by_cases e' : k' = t
      · subst e'
        rw [upd_same]; intro e2
        rcases hn with h1 | ⟨q, h1, h2⟩
        · rw [h1] at e2; exact h.sep2 k k' hk hk' hne b hb e2
        · rw [h1] at e2; have := Option.some.inj e2; have := ((h.added k hk).lt hb).1; omega
      · rw [upd_ne _ _ e']; exact h.sep2 k k' hk hk' hne b hb
  · rcases hx with rfl | hx
    · exact .inl rfl
    · exact .inr (.inr (.inr (.inr ⟨t, ht, hx⟩)))
  · rcases hb with h1 | h1 | h1 | h1 | ⟨k, hk, h1⟩
    · exact .inl (.inl h1)
    · exact .inl (.inr (.inl h1))
    · exact .inl (.inr (.inr (.inl h1)))
    · exact .inl (.inr (.inr (.inr (.inl h1))))
    · change sblk (upd R.av t v' k) = some b at h1
      by_cases e : k = t
      · subst e; rw [upd_same] at h1
        rcases hn with h2 | ⟨q, h2, h3⟩
        · exact .inl (.inr (.inr (.inr (.inr ⟨k, hk, by rw [← h2]; exact h1⟩))))
        · rw [h2] at h1; have := Option.some.inj h1; exact .inr (by omega)
      · rw [upd_ne _ _ e] at h1; exact .inl (.inr (.inr (.inr (.inr ⟨k, hk, h1⟩))))
  · exact (hm.cell (a := ⟨p, 132 + t, none⟩) hp (n4 t ht)).trans (h.cAdded ht)
  · exact (hm.frozen (a := ⟨p, 132 + t, none⟩) hp (n4 t ht)).trans (h.f (132 + t))
/-- The same, behind an alloc (the list of one thing that is put on). -/
theorem add_end {w1 w7 : World} {v7 v : Value} {ob : Obj} {n : Nat} {t : Nat} {x : Int} (h : ArM w1 p R S) (ht : t < 64) (hv : R.av t = v) (hm : Mod (fun b => sblk v = some b) (w1.alloc ob) w7) (hd : sblk v7 = sblk v ∨ sblk v7 = some (w1.alloc ob).heap.size ∧ (w1.alloc ob).heap.size < w7.heap.size) (hs : Sl w7 IT 1 v7 n (intsV (S.added t) ++ [.int .i64 x])) (hn : n = (S.added t).length + 1) :
    w7.cell? ⟨p, 132 + t, none⟩ = some v ∧ w7.frozen? ⟨p, 132 + t, none⟩ = false ∧ ArM (w7.setCell ⟨p, 132 + t, none⟩ v7) p { R with av := upd R.av t v7 } { S with added := upd S.added t (S.added t ++ [x]) } ∧ Step p R { R with av := upd R.av t v7 } w1 (w7.setCell ⟨p, 132 + t, none⟩ v7) := by
  subst hv; subst hn
  obtain ⟨h1, h2, h3, h4⟩ := (h.alloc ob).readd ht (l := S.added t ++ [x]) hm (by rw [List.length_append, intsV, List.map_append]; exact hs) (by
    rcases hd with h | ⟨h, _⟩
    · exact .inl h
    · exact .inr ⟨_, h, Nat.le_refl _⟩)
  exact ⟨h3, h4, h1, ((Step.refl p R w1).alloc ob).trans h2⟩
theorem Mod.undrew {T : Nat → Prop} {w w1 : World} (h : Mod T w.drew w1) : Mod T w w1 := ⟨h.os, h.tape, h.output, h.size, h.block⟩
end
end Go.Proofs.Ytfoipadgicjcaaa
