/- arena.numbers: its methods, the walks. -/
import Derived.Test.YtfoipadgicjcaaaAppW
import Derived.Test.YtfoipadgicjcaaaW0
import Derived.Deep.RegionHeld3
import Derived.Deep.DeepCutAuto
import Derived.BigQuiet
namespace Go.Proofs.Ytfoipadgicjcaaa
open Go.RowKit

def intsV (l : List Int) : List Value := l.map (Value.int .i64)
theorem intsV_len (l : List Int) : (intsV l).length = l.length := by simp [intsV]
theorem intsV_at {l : List Int} {i : Nat} {x : Int} (h : l[i]? = some x) : (intsV l)[i]? = some (.int .i64 x) := by simp [intsV, h]
theorem intsV_one (l : List Int) : ∀ u ∈ intsV l, u.oneCell' = true := fun u hu => by
  obtain ⟨x, _, rfl⟩ := List.mem_map.1 hu; rfl
abbrev IT := 3
abbrev NT := 88

/-- A cell of a slice is written. -/
theorem Sl.put {w : World} {t : TypeId} {b off n cap : Nat} {xs : List Value} (h : Sl w t 1 (.slice (some ⟨b, off, none⟩) n cap) n xs) {i : Nat} (hi : i < n) (u : Value) :
    Sl (w.setCell ⟨b, off + i, none⟩ u) t 1 (.slice (some ⟨b, off, none⟩) n cap) n (xs.set i u) := by
  obtain ⟨h1, A, cap', e, h2, h3, h4, h5⟩ := h
  injection e with e1 _ e2
  subst e1; subst e2
  obtain ⟨cs, c1, c2, c3, c4⟩ := h5 _ rfl
  refine ⟨by rw [List.length_set]; exact h1, _, _, rfl, h2, h3, (fun h => nomatch h), fun a ha => ?_⟩
  injection ha with ha; subst ha
  refine ⟨cs.setIfInBounds (off + i) u, rfl, c2.set _ _, by rw [Array.size_setIfInBounds]; exact c3, ?_⟩
  rw [← c4]
  simp only at c3 ⊢
  apply List.ext_getElem?
  intro j
  simp only [Array.toList_setIfInBounds, List.getElem?_set, List.getElem?_take, List.getElem?_drop, List.length_take, List.length_drop, Array.length_toList]
  simp only [Nat.mul_one] at c3 ⊢
  have a1 : off + i < cs.size := by omega
  have a2 : i < min n (cs.size - off) := by omega
  by_cases hij : i = j
  · subst hij
    simp [hi, a1, a2]
  · have : off + i ≠ off + j := by omega
    simp [hij, this]
/-- Cut to its first elements, another block's cell being written. -/
theorem Sl.cut {w : World} {t : TypeId} {b off n m cap p o : Nat} {l : List Int} {u : Value} (h : Sl w t 1 (.slice (some ⟨b, off, none⟩) n cap) n (intsV l)) (hm : m ≤ n) (hne : sblk (.slice (some ⟨b, off, none⟩) n cap) ≠ some p) :
    Sl (w.setCell ⟨p, o, none⟩ u) t 1 (.slice (some ⟨b, off, none⟩) m cap) m (intsV (l.take m)) := by
  have hl := h.len
  have h2 := h.far (p := ⟨p, o, none⟩) hne u
  obtain ⟨_, A, cap', e, c1, c2, c3, c4⟩ := h2
  injection e with e1 _ e2
  subst e1; subst e2
  refine ⟨by rw [intsV_len] at hl; rw [intsV_len, List.length_take]; omega, _, _, rfl, by omega, c2, (fun h => nomatch h), fun a ha => ?_⟩
  obtain ⟨cs, d1, d2, d3, d4⟩ := c4 a ha
  refine ⟨cs, d1, d2, d3, ?_⟩
  rw [intsV, List.map_take, ← intsV, ← d4, List.take_take, Nat.mul_one, Nat.mul_one]
  congr 1; omega
theorem Sl.out {w : World} {t : TypeId} {v : Value} {n : Nat} {l : List Int} (h : Sl w t 1 v n (intsV l)) : l.length = n := by
  have := h.len; rw [intsV_len] at this; omega

set_option maxRecDepth 100000 in
theorem len_any (w : World) (A : Option Addr) (n cap : Nat) :
    Calls Try.prog 106 #[.slice A n cap] w fun e w' => e = .returned (.int .i64 n) ∧ w = w' := by
  go_enter Try.func106, Try.ntmps106
  go_wp2
  go_ret
  exact ⟨rfl, rfl⟩
set_option maxRecDepth 100000 in
theorem less_any (w : World) (v : Value) (n : Nat) (l : List Int) (h : Sl w IT 1 v n (intsV l)) (i j : Nat) (x y : Int) (hi : l[i]? = some x) (hj : l[j]? = some y) :
    Calls Try.prog 107 #[v, .int .i64 i, .int .i64 j] w fun e w' => e = .returned (.bool (decide (x < y))) ∧ Below w.heap.size w w' ∧ w'.heap = w.heap := by
  have hl := h.out
  have i1 := (List.getElem?_eq_some_iff.1 hi).1
  have j1 := (List.getElem?_eq_some_iff.1 hj).1
  obtain ⟨b, off, cap, rfl, hc1, hc2, hlt, hc, hf, _⟩ := h.at (by omega)
  have c0 := hc i _ (intsV_at hi)
  have c1 := hc j _ (intsV_at hj)
  have i2 : (i : Int) < (n : Int) := by omega
  have j2 : (j : Int) < (n : Int) := by omega
  clear hc hf h
  go_enter Try.func107, Try.ntmps107
  go_wp2_with fail
  go_quiet (fail)
  go_wp2
  go_ret
  exact ⟨rfl, ⟨rfl, rfl, rfl, Nat.le_refl _, fun _ _ => rfl⟩, rfl⟩
set_option maxRecDepth 100000 in
theorem swap_any (w : World) (v : Value) (n : Nat) (l : List Int) (h : Sl w IT 1 v n (intsV l)) (i j : Nat) (x y : Int) (hi : l[i]? = some x) (hj : l[j]? = some y) :
    Calls Try.prog 108 #[v, .int .i64 i, .int .i64 j] w fun e w' => e = .returned (.tuple #[]) ∧ Sl w' IT 1 v n (intsV ((l.set i y).set j x)) ∧ Mod (fun b => sblk v = some b) w w' := by
  have hl := h.out
  have i1 := (List.getElem?_eq_some_iff.1 hi).1
  have j1 := (List.getElem?_eq_some_iff.1 hj).1
  obtain ⟨b, off, cap, rfl, hc1, hc2, hlt, hc, hf, _⟩ := h.at (by omega)
  have c0 := hc i _ (intsV_at hi)
  have c1 := hc j _ (intsV_at hj)
  have f0 := hf (off + i)
  have f1 := hf (off + j)
  have i2 : (i : Int) < (n : Int) := by omega
  have j2 : (j : Int) < (n : Int) := by omega
  have i1' : i < n := by omega
  have j1' : j < n := by omega
  clear hc hf
  have H := Lib.hid h
  clear h
  go_enter Try.func108, Try.ntmps108
  go_wp2_with fail
  by_cases hij : i = j
  · subst hij
    have hxy : x = y := Option.some.inj (hi.symm.trans hj)
    subst hxy
    go_region
    go_wp2
    go_end0
    refine ⟨rfl, ?_, ?_⟩
    · have := (H.out.put (by omega) (.int .i64 x)).put (i := i) (by omega) (.int .i64 x)
      rw [intsV, List.map_set, List.map_set]
      exact this
    · exact (((Mod.refl (fun b' => some b = some b') w).set (p := ⟨b, off + i, none⟩) (fun _ => rfl) _).set (p := ⟨b, off + i, none⟩) (fun _ => rfl) _).drew
  · have hij' : ¬ off + i = off + j := by omega
    have hji' : ¬ off + j = off + i := by omega
    go_region
    go_wp2
    go_end0
    refine ⟨rfl, ?_, ?_⟩
    · have := (H.out.put i1' (.int .i64 y)).put (i := j) j1' (.int .i64 x)
      rw [intsV, List.map_set, List.map_set]
      exact this
    · exact (((Mod.refl (fun b' => some b = some b') w).set (p := ⟨b, off + i, none⟩) (fun _ => rfl) _).set (p := ⟨b, off + j, none⟩) (fun _ => rfl) _).drew

def iface (x : Int) : Value := .iface 3 (.int .i64 x)
/-- One cell of block p was written, other old blocks but those of S left alone. -/
structure Wrote (S : Nat → Prop) (w w' : World) (p o : Nat) (u : Value) : Prop where
  mod : Mod (fun b => b = p ∨ S b) w w'
  blk : ∀ t cs, Blk w p t cs → Blk w' p t (cs.setIfInBounds o u)

set_option maxRecDepth 100000 in
theorem npop_any (w : World) (p o : Nat) (v : Value) (n : Nat) (l : List Int) (hp : w.cell? ⟨p, o, none⟩ = some v) (hf : w.frozen? ⟨p, o, none⟩ = false) (h : Sl w IT 1 v (n + 1) (intsV l)) (hne : sblk v ≠ some p) (x : Int) (hx : l[n]? = some x) :
    Calls Try.prog 109 #[.pointer (some ⟨p, o, none⟩)] w fun e w' => ∃ v', e = .returned (iface x) ∧ Sl w' IT 1 v' n (intsV (l.take n)) ∧ sblk v' = sblk v ∧ Wrote (fun _ => False) w w' p o v' := by
  obtain ⟨b, off, cap, rfl, hc1, hc2, hlt, hc, hf', _⟩ := h.at (by omega)
  have c0 := hc n _ (intsV_at hx)
  have i2 : (n : Int) < ((n : Int) + 1) := by omega
  have hwn : wrap64 (n : Int) = n := by unfold maxLen at hc2; unfold wrap64; omega
  have H := Lib.hid h
  clear hc hf' h
  go_enter Try.func109, Try.ntmps109
  go_wp2_with fail
  go_ret
  refine ⟨.slice (some ⟨b, off, none⟩) n cap, rfl, ?_, rfl, ?_⟩
  · exact H.out.cut (by omega) hne
  · exact ⟨(Mod.refl _ w).set (p := ⟨p, o, none⟩) (fun _ => .inl rfl) _, fun t cs hb => hb.set _ _⟩

theorem push_end {w w7 : World} {p o : Nat} {v v7 : Value} {n : Nat} {xs xs0 : List Value} {ob : Obj} (hpl : p < w.heap.size) (hp : w.cell? ⟨p, o, none⟩ = some v) (hf : w.frozen? ⟨p, o, none⟩ = false) (hs0 : Sl w IT 1 v n xs0) (hne : sblk v ≠ some p)
    (hm0 : Mod (fun b => sblk v = some b) (w.alloc ob).drew w7) (hd : sblk v7 = sblk v ∨ sblk v7 = some (w.alloc ob).drew.heap.size ∧ (w.alloc ob).drew.heap.size < w7.heap.size) (hs : Sl w7 IT 1 v7 (n + 1) xs) :
    w7.cell? ⟨p, o, none⟩ = some v ∧ w7.frozen? ⟨p, o, none⟩ = false ∧ Sl (w7.setCell ⟨p, o, none⟩ v7) IT 1 v7 (n + 1) xs ∧ (sblk v7 = sblk v ∨ ∃ q, sblk v7 = some q ∧ w.heap.size ≤ q) ∧ Wrote (fun b => sblk v = some b) w (w7.setCell ⟨p, o, none⟩ v7) p o v7 := by
  have hm : Mod (fun b => sblk v = some b) w w7 := ⟨hm0.os, hm0.tape, hm0.output, Nat.le_trans (by simp) hm0.size, fun k hk hn => (hm0.block k (by show k < (w.alloc ob).heap.size; simp; omega) hn).trans (Below.heap_alloc w ob k hk)⟩
  have h7 : sblk v7 = sblk v ∨ ∃ q, sblk v7 = some q ∧ w.heap.size ≤ q := by
    rcases hd with h | ⟨h, _⟩
    · exact .inl h
    · exact .inr ⟨_, h, by show w.heap.size ≤ (w.alloc ob).heap.size; simp⟩
  refine ⟨(hm.cell (a := ⟨p, o, none⟩) hpl hne).trans hp, (hm.frozen (a := ⟨p, o, none⟩) hpl hne).trans hf, hs.far (p := ⟨p, o, none⟩) ?_ _, h7, ?_, fun t cs hb => ?_⟩
  · show sblk v7 ≠ some p
    rcases h7 with h | ⟨q, h, hq⟩
    · rw [h]; exact hne
    · rw [h]; intro e; have := Option.some.inj e; omega
  · exact (hm.mono fun b _ h => .inr h).set (p := ⟨p, o, none⟩) (fun _ => .inl rfl) _
  · have hb' : Blk w7 p t cs := (hm.block p hpl hne).trans hb
    exact hb'.set _ _

theorem Try.infoInt : (Try.prog.info? 3).map (fun i => (i.zero, i.size, i.bytes)) = some (some (.int .i64 0), 1, 8) := by kernel_rfl
set_option maxRecDepth 100000 in
theorem npush_any (w : World) (p o : Nat) (v : Value) (n : Nat) (l : List Int) (hp : w.cell? ⟨p, o, none⟩ = some v) (hf : w.frozen? ⟨p, o, none⟩ = false) (h : Sl w IT 1 v n (intsV l)) (hne : sblk v ≠ some p) (x : Int) (hn : n ≤ 1000000) :
    Calls Try.prog 110 #[.pointer (some ⟨p, o, none⟩), iface x] w fun e w' => ∃ v', e = .returned (.tuple #[]) ∧ Sl w' IT 1 v' (n + 1) (intsV (l ++ [x])) ∧ (sblk v' = sblk v ∨ ∃ q, sblk v' = some q ∧ w.heap.size ≤ q) ∧ Wrote (fun b => sblk v = some b) w w' p o v' := by
  have H := Lib.hid h
  have hpl := World.block_lt_of_cell? w _ hp
  have hpl : p < w.heap.size := hpl
  have hpa : (w.alloc (.cells #[.int .i64 x] IT)).cell? ⟨p, o, none⟩ = some v := (World.cell?_alloc_lt w _ ⟨p, o, none⟩ hpl).trans hp
  obtain ⟨A, cap, rfl, hc1, hc2⟩ := h.form
  have HX := Lib.hid (Rd.fresh w IT #[.int .i64 x] 1 1 rfl (by unfold maxLen; omega))
  have HN := Lib.hid hne
  have HP : Hid (∀ ob w7 v7 xs, Mod (fun b => sblk (.slice A n cap) = some b) (w.alloc ob).drew w7 → (sblk v7 = sblk (.slice A n cap) ∨ sblk v7 = some (w.alloc ob).drew.heap.size ∧ (w.alloc ob).drew.heap.size < w7.heap.size) → Sl w7 IT 1 v7 (n + 1) xs → _) := fun ob w7 v7 xs h1 h2 h3 => push_end (o := o) hpl hp hf h hne h1 h2 h3
  clear h hne
  have ha : ∀ w, (Instr.typeAssert (.iface 3 (.int .i64 x)) 20 3 false).run Try.prog w = .ok (.int .i64 x) w := fun w => by kernel_rfl
  unfold iface
  go_enter Try.func110, Try.ntmps110
  go_wp2_with fail
  go_region_law
    ((refine step_append_sl _ rfl (.tmp 7) (.tmp 10) NT rfl IT (.int .i64 0) 1 8 Try.underlying88 Try.infoInt rfl (by decide) rfl (by exact H.out.alloc _) rfl (by exact HX.out) (by intro u hu; simp at hu; subst hu; rfl) (by omega) (by unfold maxLen; omega) ?_; intro v' w1 hs1 hm1 hd1; obtain ⟨d0, d1, d2, d3, d4⟩ := HP.out _ _ _ _ hm1 hd1 hs1; obtain ⟨A', cap', rfl, g1, g2⟩ := hs1.form))
  all_goals go_wp2
  all_goals go_end0
  all_goals (refine ⟨_, rfl, ?_, d3, d4⟩; rw [intsV, List.map_append]; exact d2)
end Go.Proofs.Ytfoipadgicjcaaa
