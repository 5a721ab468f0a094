/- container/heap.Push and Pop over a field of numbers. -/
import Derived.Test.YtfoipadgicjcaaaHeapq
namespace Go.Proofs.Ytfoipadgicjcaaa
open Go.RowKit

/-- Cell o of block p holds numbers. -/
structure FrM (w : World) (p o T : Nat) (cs : Array Value) (v : Value) (n : Nat) (l : List Int) : Prop where
  blk : Blk w p T cs
  at_ : cs[o]? = some v
  sl : Sl w IT 1 v n (intsV l)
  ne : sblk v ≠ some p
theorem FrM.cell {w : World} {p o T n : Nat} {cs : Array Value} {v : Value} {l : List Int} (h : FrM w p o T cs v n l) : w.cell? ⟨p, o, none⟩ = some v := h.blk.cellS h.at_
theorem FrM.frozen {w : World} {p o T n : Nat} {cs : Array Value} {v : Value} {l : List Int} (h : FrM w p o T cs v n l) : w.frozen? ⟨p, o, none⟩ = false := h.blk.frozen o
theorem FrM.wrote {w w' : World} {p o T n n' : Nat} {cs : Array Value} {v v' : Value} {l l' : List Int} {S : Nat → Prop} (h : FrM w p o T cs v n l) (hw : Wrote S w w' p o v') (hs : Sl w' IT 1 v' n' (intsV l')) (hn : sblk v' = sblk v ∨ ∃ q, sblk v' = some q ∧ w.heap.size ≤ q) :
    FrM w' p o T (cs.setIfInBounds o v') v' n' l' := by
  refine ⟨hw.blk _ _ h.blk, ?_, hs, ?_⟩
  · have := (Array.getElem?_eq_some_iff.1 h.at_).1
    simp [this]
  · rcases hn with e | ⟨q, e, hq⟩
    · rw [e]; exact h.ne
    · rw [e]; intro e2; have := Option.some.inj e2; have := h.blk.lt; omega
theorem FrM.turned {w w' : World} {p o T n : Nat} {cs : Array Value} {v : Value} {l l' : List Int} (h : FrM w p o T cs v n l) (hm : Mod (fun b => sblk v = some b) w w') (hs : Sl w' IT 1 v n (intsV l')) : FrM w' p o T cs v n l' :=
  ⟨h.blk.mod hm h.ne, h.at_, hs, h.ne⟩
theorem set_set {cs : Array Value} {o : Nat} {a b : Value} : (cs.setIfInBounds o a).setIfInBounds o b = cs.setIfInBounds o b := by simp

def PushPost (w : World) (p o T : Nat) (cs : Array Value) (v : Value) (n : Nat) (l : List Int) (x : Int) (e : Ending) (w' : World) : Prop :=
  ∃ v' l', e = .returned (.tuple #[]) ∧ List.Perm l' (l ++ [x]) ∧ FrM w' p o T (cs.setIfInBounds o v') v' (n + 1) l' ∧ (sblk v' = sblk v ∨ ∃ q, sblk v' = some q ∧ w.heap.size ≤ q) ∧ Mod (fun b => b = p ∨ sblk v = some b) w w'
def PopPost (w : World) (p o T : Nat) (cs : Array Value) (v : Value) (n : Nat) (l : List Int) (e : Ending) (w' : World) : Prop :=
  ∃ v' l' x, e = .returned (iface x) ∧ List.Perm (x :: l') l ∧ FrM w' p o T (cs.setIfInBounds o v') v' n l' ∧ sblk v' = sblk v ∧ Mod (fun b => b = p ∨ sblk v = some b) w w'

set_option maxRecDepth 100000 in
set_option maxHeartbeats 3200000 in
theorem hpush_any (w : World) (p o T n : Nat) (cs : Array Value) (v : Value) (l : List Int) (h : FrM w p o T cs v n l) (x : Int) (hn : n < 1000000) :
    Calls Try.prog 46 #[hV p o, iface x] w (PushPost w p o T cs v n l x) := by
  have H := Lib.hid h
  have hmp := fun fuel => meth_push w p o fuel
  clear h
  unfold hV
  go_enter Try.func46, Try.ntmps46
  go_wp2_with fail
  (with_reducible refine (npush_any w p o v n l H.out.cell H.out.frozen H.out.sl H.out.ne x (Nat.le_of_lt hn)).mono ?_)
  rintro e w1 ⟨v1, rfl, hs1, hn1, hw1⟩
  have HF1 := Lib.hid (H.out.wrote hw1 hs1 hn1)
  have HN1 := Lib.hid hn1
  have HM1 := Lib.hid hw1.mod
  obtain ⟨A1, cap1, rfl, _, _⟩ := hs1.form
  have c1 := HF1.out.cell
  have hml := fun fuel => meth_len (p := p) (o := o) fuel c1
  clear hs1 hn1 hw1 hmp
  go_wp2_with fail
  (with_reducible refine (len_any w1 A1 (n + 1) cap1).mono ?_)
  rintro e w2 ⟨rfl, rfl⟩
  have hwn := wrap_nat (i := n) (by omega)
  go_wp2_with fail
  (with_reducible refine (up_any w1 p o _ (n + 1) (l ++ [x]) c1 HF1.out.sl HF1.out.ne n (by omega) (by omega)).mono ?_)
  rintro e w3 ⟨l', rfl, hpe, hs3, hm3⟩
  have HF3 := Lib.hid (HF1.out.turned hm3 hs3)
  have HP3 := Lib.hid hpe
  have HM3 : Hid (Mod (fun b => b = p ∨ sblk v = some b) w w3) := HM1.out.trans hm3 (fun b hb he => by
    rcases HN1.out with h | ⟨q, h, hq⟩
    · exact .inr (by rw [← h]; exact he)
    · rw [h] at he; have := Option.some.inj he; omega)
  clear hpe hs3 hm3 hml
  go_wp2_with fail
  go_end0
  exact ⟨_, l', rfl, HP3.out, HF3.out, HN1.out, HM3.out⟩
set_option maxRecDepth 100000 in
set_option maxHeartbeats 3200000 in
theorem hpop_any (w : World) (p o T n : Nat) (cs : Array Value) (v : Value) (l : List Int) (h : FrM w p o T cs v (n + 1) l) (hn : n < 1000000) :
    Calls Try.prog 70 #[hV p o] w (PopPost w p o T cs v n l) := by
  have H := Lib.hid h
  obtain ⟨A, cap, rfl, _, _⟩ := h.sl.form
  have c0 := h.cell
  have hml := fun fuel => meth_len (p := p) (o := o) fuel c0
  have hms := fun fuel => meth_swap (p := p) (o := o) fuel c0
  clear h
  unfold hV
  go_enter Try.func70, Try.ntmps70
  go_wp2_with fail
  (with_reducible refine (len_any w A (n + 1) cap).mono ?_)
  rintro e wq ⟨rfl, rfl⟩
  have hwn := wrap_nat (i := n) (by omega)
  have HL := Lib.hid H.out.sl.out
  obtain ⟨x0, hx0⟩ : ∃ x, l[0]? = some x := ⟨l[0]'(by have := HL.out; omega), List.getElem?_eq_getElem _⟩
  obtain ⟨x1, hx1⟩ : ∃ x, l[n]? = some x := ⟨l[n]'(by have := HL.out; omega), List.getElem?_eq_getElem _⟩
  go_wp2_with fail
  have hsw := swap_any w _ (n + 1) l H.out.sl 0 n x0 x1 hx0 hx1
  rw [show ((0 : Nat) : Int) = 0 from rfl] at hsw
  (with_reducible refine hsw.mono ?_)
  rintro e w1 ⟨rfl, hs1, hm1⟩
  have HF1 := Lib.hid (H.out.turned hm1 hs1)
  have HM1 := Lib.hid hm1
  have HP1 := Lib.hid (perm_swap hx0 hx1)
  have c1 := HF1.out.cell
  clear hs1 hm1 hml hms hsw
  go_wp2_with fail
  (with_reducible refine (down_any w1 p o _ (n + 1) n _ c1 HF1.out.sl HF1.out.ne (by omega) (by omega)).mono ?_)
  rintro e w2 ⟨l2, b, rfl, hpe, hkp, hs2, hm2⟩
  have HF2 := Lib.hid (HF1.out.turned hm2 hs2)
  have HM2 := Lib.hid (HM1.out.trans hm2 (fun _ _ h => h))
  have HP2 := Lib.hid (hpe.trans HP1.out)
  have hmp := fun fuel => meth_pop w2 p o fuel
  have HL2 := Lib.hid HF2.out.sl.out
  obtain ⟨y, hy⟩ : ∃ x, l2[n]? = some x := ⟨l2[n]'(by have := HL2.out; omega), List.getElem?_eq_getElem _⟩
  clear hpe hkp hs2 hm2
  go_wp2_with fail
  (with_reducible refine (npop_any w2 p o _ n l2 HF2.out.cell HF2.out.frozen HF2.out.sl HF2.out.ne y hy).mono ?_)
  rintro e w3 ⟨v3, rfl, hs3, hn3, hw3⟩
  have HF3 := Lib.hid (HF2.out.wrote hw3 hs3 (.inl hn3))
  have HM3 : Hid (Mod (fun b => b = p ∨ sblk (.slice A (n + 1) cap) = some b) w w3) := (HM2.out.mono fun _ _ h => .inr h).trans hw3.mod (fun b _ h => by rcases h with h | h; exact .inl h; exact h.elim)
  have HN3 := Lib.hid hn3
  have HP3 : Hid (List.Perm (y :: l2.take n) l) := by
    refine List.Perm.trans ?_ HP2.out
    have hlt : n < l2.length := by have := HL2.out; omega
    have e : l2 = l2.take n ++ [y] := by
      have h1 := List.take_append_drop n l2
      have h2 : l2.drop n = [y] := by
        rw [List.drop_eq_getElem_cons hlt, (List.getElem?_eq_some_iff.1 hy).2, List.drop_eq_nil_of_le (by have := HL2.out; omega)]
      rw [h2] at h1; exact h1.symm
    exact ((List.perm_append_comm (l₁ := [y]) (l₂ := l2.take n))).trans (by rw [← e])
  clear hs3 hn3 hw3 hmp
  go_wp2_with fail
  go_ret
  exact ⟨v3, l2.take n, y, rfl, HP3.out, by have := HF3.out; exact this, HN3.out, HM3.out⟩
end Go.Proofs.Ytfoipadgicjcaaa
