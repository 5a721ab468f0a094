/- arena: take. -/
import Derived.Test.YtfoipadgicjcaaaArOps
import Derived.Test.YtfoipadgicjcaaaArUndo
namespace Go.Proofs.Ytfoipadgicjcaaa
open Go.RowKit

section
variable {w w' : World} {p : Nat} {R : ArR} {S : ArS}
theorem arCells_live (R : ArR) (S : ArS) (x : Int) : (arCells R S).setIfInBounds 196 (.int .i64 x) = arCells R { S with live := x } := by
  refine arCells_set (by omega) ?_ fun j hj hne => ?_
  · rfl
  · unfold arC
    have h196 : j < 196 := by omega
    simp only [h196, if_true]
theorem arCells_free (R : ArR) (S : ArS) (v : Value) (l : List Int) : (arCells R S).setIfInBounds 3 v = arCells { R with fv := v } { S with free := l } := by
  refine arCells_set (by omega) rfl fun j hj hne => ?_
  unfold arC
  simp only [hne, if_false]
theorem arCells_list (R : ArR) (S : ArS) (v : Value) (l : List EntD) : (arCells R S).setIfInBounds 1 v = arCells { R with lv := v } { S with ents := l } := by
  refine arCells_set (by omega) rfl fun j hj hne => ?_
  unfold arC
  simp only [hne, if_false]
/-- The numbers that are free, as container/heap sees them. -/
theorem ArM.fr (h : ArM w p R S) : FrM w p 3 AR (arCells R S) R.fv S.free.length S.free := ⟨h.blk, (arCells_at R S 3 (by decide)).trans rfl, h.free, h.p_ne.2.2.1⟩
theorem ArM.of_fr (h : ArM w p R S) {v' : Value} {n : Nat} {l : List Int} (hf : FrM w' p 3 AR ((arCells R S).setIfInBounds 3 v') v' n l) (hn : sblk v' = sblk R.fv ∨ ∃ q, sblk v' = some q ∧ w.heap.size ≤ q) (hm : Mod (fun b => b = p ∨ sblk R.fv = some b) w w') :
    ArM w' p { R with fv := v' } { S with free := l } ∧ Step p R { R with fv := v' } w w' := by
  obtain ⟨n1, n2, n3, n4⟩ := h.p_ne
  have hl := hf.sl.out
  refine ⟨⟨by rw [← arCells_free R S v' l]; exact hf.blk, h.list.mod hm fun b hb hx => ?_, h.idx.of_block (hm.block _ h.idx.lt fun hx => ?_), by rw [hl]; exact hf.sl, fun t ht => (h.added t ht).mod hm fun b hb hx => ?_, fun t ht b hb e => ?_, h.sep2, h.masks⟩, ⟨hm.mono fun b _ hx => ?_, fun b hb => ?_⟩⟩
  · rcases hx with rfl | hx
    · exact n2 hb
    · exact (h.list_ne hb).2.2.1 hx
  · rcases hx with hx | hx
    · exact n1 hx.symm
    · exact h.mb_ne.2.1 hx
  · rcases hx with rfl | hx
    · exact n4 t ht hb
    · exact h.sep1 t ht b hx hb
  · change sblk v' = some b at hb
    rcases hn with h1 | ⟨q, h1, h2⟩
    · exact h.sep1 t ht b (by rw [← h1]; exact hb) e
    · rw [h1] at hb
      have := Option.some.inj hb
      have := ((h.added t ht).lt e).1
      omega
  · rcases hx with rfl | hx
    · exact .inl rfl
    · exact .inr (.inr (.inr (.inl hx)))
  · rcases hb with h1 | h1 | h1 | h1 | h1
    · exact .inl (.inl h1)
    · exact .inl (.inr (.inl h1))
    · exact .inl (.inr (.inr (.inl h1)))
    · change sblk v' = some b at h1
      rcases hn with h2 | ⟨q, h2, h3⟩
      · exact .inl (.inr (.inr (.inr (.inl (by rw [← h2]; exact h1)))))
      · rw [h2] at h1; have := Option.some.inj h1; exact .inr (by omega)
    · exact .inl (.inr (.inr (.inr (.inr h1))))
/-- The list is another one: written beside, then named. -/
theorem ArM.relist (h : ArM w p R S) {w1 : World} {v' : Value} {l : List EntD} (hm : Mod (fun b => sblk R.lv = some b) w w1) (hs : Sl w1 EN 8 v' l.length (entsV l)) (hn : sblk v' = sblk R.lv ∨ ∃ q, sblk v' = some q ∧ w.heap.size ≤ q) (hk : ∀ e ∈ l, e.mask < 18446744073709551616) :
    ArM (w1.setCell ⟨p, 1, none⟩ v') p { R with lv := v' } { S with ents := l } ∧ Step p R { R with lv := v' } w (w1.setCell ⟨p, 1, none⟩ v') ∧ w1.cell? ⟨p, 1, none⟩ = some R.lv ∧ w1.frozen? ⟨p, 1, none⟩ = false := by
  obtain ⟨n1, n2, n3, n4⟩ := h.p_ne
  have hp := h.blk.lt
  have hvp : sblk v' ≠ some p := by
    rcases hn with h1 | ⟨q, h1, h2⟩
    · rw [h1]; exact n2
    · rw [h1]; intro e; have := Option.some.inj e; omega
  have hM : Mod (fun b => b = p ∨ sblk R.lv = some b) w (w1.setCell ⟨p, 1, none⟩ v') := (hm.mono fun b _ hx => .inr hx).set (p := ⟨p, 1, none⟩) (fun _ => .inl rfl) _
  refine ⟨⟨by rw [← arCells_list R S v' l]; exact Blk.set (b := p) (t := AR) ((hm.block p hp n2).trans h.blk) _ _, hs.far (p := ⟨p, 1, none⟩) hvp _, h.idx.of_block (hM.block _ h.idx.lt fun hx => ?_), h.free.mod hM fun b hb hx => ?_, fun t ht => (h.added t ht).mod hM fun b hb hx => ?_, h.sep1, h.sep2, hk⟩, ⟨hM.mono fun b _ hx => ?_, fun b hb => ?_⟩, ?_, ?_⟩
  · rcases hx with hx | hx
    · exact n1 hx.symm
    · exact h.mb_ne.1 hx
  · rcases hx with rfl | hx
    · exact n3 hb
    · exact (h.list_ne hx).2.2.1 hb
  · rcases hx with rfl | hx
    · exact n4 t ht hb
    · exact (h.list_ne hx).2.2.2 t ht hb
  · rcases hx with rfl | hx
    · exact .inl rfl
    · exact .inr (.inr (.inl hx))
  · rcases hb with h1 | h1 | h1 | h1
    · exact .inl (.inl h1)
    · exact .inl (.inr (.inl h1))
    · change sblk v' = some b at h1
      rcases hn with h2 | ⟨q, h2, h3⟩
      · exact .inl (.inr (.inr (.inl (by rw [← h2]; exact h1))))
      · rw [h2] at h1; have := Option.some.inj h1; exact .inr (by omega)
    · exact .inl (.inr (.inr (.inr h1)))
  · exact (hm.cell (a := ⟨p, 1, none⟩) hp n2).trans h.cList
  · exact (hm.frozen (a := ⟨p, 1, none⟩) hp n2).trans (h.f 1)
end
theorem ArM.alloc {w : World} {p : Nat} {R : ArR} {S : ArS} (h : ArM w p R S) (ob : Obj) : ArM (w.alloc ob) p R S := h.keep ((Mod.refl (fun _ => False) w).alloc ob) fun _ _ h => h
theorem Step.alloc {w w' : World} {p : Nat} {R R' : ArR} (h : Step p R R' w w') (ob : Obj) : Step p R R' w (w'.alloc ob) := ⟨h.mod.alloc ob, h.own⟩
theorem Try.infoEnt : (Try.prog.info? EN).map (fun i => (i.zero, i.size, i.bytes)) = some (some (.agg #[.int .i64 0, .int .i64 0, .int .i64 0, .int .i64 0, .int .i64 0, .int .i64 0, .int .i64 0, .int .u64 0]), 8, 64) := by kernel_rfl
theorem take_end {w1 w7 : World} {p : Nat} {R : ArR} {S : ArS} {v7 v : Value} {ob : Obj} {n : Nat} (h : ArM w1 p R S) (hv : R.lv = v) (hm : Mod (fun b => sblk v = some b) (w1.alloc ob) w7) (hd : sblk v7 = sblk v ∨ sblk v7 = some (w1.alloc ob).heap.size ∧ (w1.alloc ob).heap.size < w7.heap.size) (hs : Sl w7 EN 8 v7 n (entsV S.ents ++ entV zeroE)) (hn : n = S.ents.length + 1) :
    w7.cell? ⟨p, 1, none⟩ = some v ∧ w7.frozen? ⟨p, 1, none⟩ = false ∧ ArM (w7.setCell ⟨p, 1, none⟩ v7) p { R with lv := v7 } { S with ents := S.ents ++ [zeroE] } ∧ Step p R { R with lv := v7 } w1 (w7.setCell ⟨p, 1, none⟩ v7) := by
  subst hv; subst hn
  have e : entsV (S.ents ++ [zeroE]) = entsV S.ents ++ entV zeroE := by unfold entsV; rw [List.flatMap_append]; simp
  obtain ⟨h1, h2, h3, h4⟩ := (h.alloc ob).relist (l := S.ents ++ [zeroE]) hm (by rw [e, List.length_append]; exact hs) (by
    rcases hd with h | ⟨h, _⟩
    · exact .inl h
    · exact .inr ⟨_, h, Nat.le_refl _⟩) (fun e he => by
    rcases List.mem_append.1 he with h1 | h1
    · exact h.masks e h1
    · rw [List.mem_singleton.1 h1]; exact zero_ok.2.2.2)
  exact ⟨h3, h4, h1, ((Step.refl p R w1).alloc ob).trans h2⟩
def TakePost (w : World) (p : Nat) (R : ArR) (S : ArS) (e : Ending) (w' : World) : Prop :=
  ∃ (i : Nat) (S1 : ArS) (R1 : ArR), e = .returned (.int .i64 i) ∧ TakeR S i S1 ∧ ArM w' p R1 S1 ∧ Step p R R1 w w'

set_option maxRecDepth 100000 in
set_option maxHeartbeats 3200000 in
theorem take_any (w : World) (p : Nat) (R : ArR) (S : ArS) (h : ArM w p R S) (hI : Inv S) (hl : S.live = S.size) :
    Calls Try.prog 63 #[.pointer (some ⟨p, 0, none⟩)] w (TakePost w p R S) := by
  have c0 := h.cLive
  have f0 := h.f 196
  have c3 := h.cFree
  have hsz := hI.lenN
  have hpt := hI.part
  have hwl : IntKind.i64.wrap (S.live + 1) = S.live + 1 := by rw [IntKind.wrap_i64]; omega
  have HSZ := Lib.hid hsz
  have HPT := Lib.hid hpt
  have H1 := Lib.hid (h.put (arCells_live R S (S.live + 1)) rfl rfl rfl rfl rfl)
  have HST := Lib.hid (Step.set h (q := ⟨p, 196, none⟩) (.inl rfl) (.int .i64 (S.live + 1)))
  have HI := Lib.hid hI
  obtain ⟨A, cap, hfv, hc1, hc2⟩ := h.free.form
  rw [hfv] at c3
  have HFV := Lib.hid hfv
  have c1 := h.cList
  have f1 := h.f 1
  obtain ⟨b, off, lcap, hlv, hk1, hk2, _⟩ := h.ents (by omega)
  rw [hlv] at c1
  have HLV := Lib.hid hlv
  clear h hI hsz hpt hfv hl hlv
  generalize hn : S.free.length = n at *
  have HN := Lib.hid hn
  clear hn
  go_enter Try.func63, Try.ntmps63
  rcases Nat.eq_zero_or_pos n with rfl | hn
  · have HSL : Hid (Sl (w.setCell ⟨p, 196, none⟩ (.int .i64 (S.live + 1))) EN 8 (.slice (some ⟨b, off, none⟩) S.ents.length lcap) S.ents.length (entsV S.ents)) := by
      show Sl _ _ _ _ _ _
      rw [← HLV.out]; exact H1.out.list
    have HX := Lib.hid (Rd.fresh (w.setCell ⟨p, 196, none⟩ (.int .i64 (S.live + 1))) EN #[.int .i64 0, .int .i64 0, .int .i64 0, .int .i64 0, .int .i64 0, .int .i64 0, .int .i64 0, .int .u64 0] 8 1 rfl (by unfold maxLen; omega))
    rw [World.size_setCell] at HX
    have hwn : wrap64 (S.ents.length : Int) = S.ents.length := by have := HSZ.out; unfold wrap64; omega
    go_wp2_with (at_builtin; go_loud (refine wpList_append_sl _ rfl (.tmp 26) (.tmp 28) 86 rfl EN (.agg #[.int .i64 0, .int .i64 0, .int .i64 0, .int .i64 0, .int .i64 0, .int .i64 0, .int .i64 0, .int .u64 0]) 8 64 Try.underlying86 Try.infoEnt rfl (by decide) rfl (by exact HSL.out.alloc _) rfl (by exact HX.out) (by intro u hu; simp at hu; rcases hu with rfl | rfl <;> rfl) (by have := HSZ.out; omega) (by have := HSZ.out; unfold maxLen; omega) ?_); intro v' w7 hs7 hm7 hd7; obtain ⟨d0, d1, d2, d3⟩ := take_end H1.out HLV.out hm7 hd7 hs7 rfl; obtain ⟨A', cap', rfl, g1, g2⟩ := hs7.form)
    go_ret
    exact ⟨S.ents.length, _, _, rfl, .inr ⟨List.eq_nil_of_length_eq_zero HN.out, rfl, rfl⟩, d2, HST.out.trans d3⟩
  · have hn0 : 0 < (n : Int) := by omega
    go_wp2_with fail
    obtain ⟨m, rfl⟩ : ∃ m, n = m + 1 := ⟨n - 1, by omega⟩
    have HFR := Lib.hid (H1.out.fr)
    have ha : ∀ (x : Int) (w : World), (Instr.typeAssert (.iface 3 (.int .i64 x)) 20 3 false).run Try.prog w = .ok (.int .i64 x) w := fun x w => by kernel_rfl
    (with_reducible refine (hpop_any _ p 3 AR m _ _ _ (by have := HFR.out; change FrM _ _ _ _ _ _ S.free.length S.free at this; rw [HN.out] at this; exact this) (by have := HSZ.out; have := HPT.out; omega)).mono ?_)
    rintro e w2 ⟨v', l', x, rfl, hpe, hf2, hn2, hm2⟩
    obtain ⟨k1, k2⟩ := H1.out.of_fr hf2 (.inl hn2) hm2
    have HK1 := Lib.hid k1
    have HK2 := Lib.hid (HST.out.trans k2)
    have HPE := Lib.hid hpe
    clear hpe hf2 hn2 hm2 k1 k2
    unfold iface
    go_wp2_with fail
    go_ret
    obtain ⟨i, hi, _⟩ := HI.out.free x (HPE.out.subset (List.mem_cons_self ..))
    subst hi
    exact ⟨i, _, _, rfl, .inl ⟨l', HPE.out, rfl⟩, HK1.out, HK2.out⟩
end Go.Proofs.Ytfoipadgicjcaaa
