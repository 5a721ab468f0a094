/- arena: Clean. -/
import Derived.Test.YtfoipadgicjcaaaArUndo
import Derived.Test.YtfoipadgicjcaaaIntSet
import Derived.Test.YtfoipadgicjcaaaArJoin
import Derived.Carry
namespace Go.Proofs.Ytfoipadgicjcaaa
open Go.RowKit

def kidsOf (e : EntD) : List Int := [e.key.a0, e.key.a1, e.key.a2, e.key.a3]
/-- What roots are made of, as far as it is a tenant's own. -/
inductive Reach (S : ArS) (t : Nat) (roots : List Int) : Int → Prop
  | root (x : Int) : x ∈ roots → 2 ≤ x → ownsB S t x 0 = true → Reach S t roots x
  | kid (i : Nat) (e : EntD) (x : Int) : Reach S t roots (i : Int) → S.ents[i]? = some e → x ∈ kidsOf e → 2 ≤ x → ownsB S t x 0 = true → Reach S t roots x
/-- The work in hand: what is kept, what is yet to be looked at. -/
structure CleanI (S : ArS) (t : Nat) (roots K W : List Int) : Prop where
  nodup : K.Nodup
  kept : ∀ x ∈ K, Reach S t roots x
  work : ∀ x ∈ W, 2 ≤ x → ownsB S t x 0 = true → Reach S t roots x
  roots : ∀ x ∈ roots, 2 ≤ x → ownsB S t x 0 = true → x ∈ K ∨ x ∈ W
  kids : ∀ (i : Nat) e x, (i : Int) ∈ K → S.ents[i]? = some e → x ∈ kidsOf e → 2 ≤ x → ownsB S t x 0 = true → x ∈ K ∨ x ∈ W
theorem Reach.own {S : ArS} {t : Nat} {roots : List Int} {x : Int} (h : Reach S t roots x) : 2 ≤ x ∧ ownsB S t x 0 = true := by
  cases h with
  | root _ _ h1 h2 => exact ⟨h1, h2⟩
  | kid _ _ _ _ _ _ h1 h2 => exact ⟨h1, h2⟩
theorem CleanI.start (S : ArS) (t : Nat) (roots : List Int) : CleanI S t roots [] roots :=
  { nodup := List.nodup_nil, kept := fun _ h => absurd h List.not_mem_nil, work := fun x h h2 ho => Reach.root x h h2 ho, roots := fun x h _ _ => Or.inr h, kids := fun _ _ _ h => absurd h List.not_mem_nil }
theorem CleanI.skip {S : ArS} {t : Nat} {roots K W : List Int} {x : Int} (h : CleanI S t roots K (W ++ [x])) (hx : x ∈ K ∨ x < 2 ∨ ownsB S t x 0 = false) : CleanI S t roots K W := by
  have key : ∀ y, (y ∈ K ∨ y ∈ W ++ [x]) → 2 ≤ y → ownsB S t y 0 = true → y ∈ K ∨ y ∈ W := by
    intro y hy h2 ho
    rcases hy with hy | hy
    · exact .inl hy
    · rcases List.mem_append.1 hy with hy | hy
      · exact .inr hy
      · rw [List.mem_singleton] at hy
        subst hy
        rcases hx with h1 | h1 | h1
        · exact .inl h1
        · omega
        · rw [ho] at h1; cases h1
  exact ⟨h.nodup, h.kept, fun y hy => h.work y (List.mem_append_left _ hy), fun y hy h2 ho => key y (h.roots y hy h2 ho) h2 ho, fun i e y hi he hy h2 ho => key y (h.kids i e y hi he hy h2 ho) h2 ho⟩
theorem CleanI.keep {S : ArS} {t : Nat} {roots K W : List Int} {i : Nat} {e : EntD} (h : CleanI S t roots K (W ++ [(i : Int)])) (hx : (i : Int) ∉ K) (h2 : 2 ≤ i) (ho : ownsB S t i 0 = true) (he : S.ents[i]? = some e) :
    CleanI S t roots ((i : Int) :: K) (W ++ kidsOf e) := by
  have hr := h.work i (List.mem_append_right _ (List.mem_singleton.2 rfl)) (by omega) ho
  have key : ∀ y, (y ∈ K ∨ y ∈ W ++ [(i : Int)]) → y ∈ (i : Int) :: K ∨ y ∈ W ++ kidsOf e := by
    intro y hy
    rcases hy with hy | hy
    · exact .inl (List.mem_cons_of_mem _ hy)
    · rcases List.mem_append.1 hy with hy | hy
      · exact .inr (List.mem_append_left _ hy)
      · rw [List.mem_singleton] at hy; exact .inl (hy ▸ List.mem_cons_self ..)
  refine ⟨List.nodup_cons.2 ⟨hx, h.nodup⟩, fun y hy => ?_, fun y hy h3 ho3 => ?_, fun y hy h3 ho3 => key y (h.roots y hy h3 ho3), fun j e' y hj he' hy h3 ho3 => ?_⟩
  · rcases List.mem_cons.1 hy with rfl | hy
    · exact hr
    · exact h.kept y hy
  · rcases List.mem_append.1 hy with hy | hy
    · exact h.work y (List.mem_append_left _ hy) h3 ho3
    · exact .kid i e y hr he hy h3 ho3
  · rcases List.mem_cons.1 hj with hj | hj
    · have : j = i := by omega
      subst this
      rw [he] at he'; cases he'
      exact .inr (List.mem_append_right _ hy)
    · exact key y (h.kids j e' y hj he' hy h3 ho3)
theorem CleanI.done {S : ArS} {t : Nat} {roots K : List Int} (h : CleanI S t roots K []) (hI : Inv S) (x : Int) : x ∈ K ↔ Reach S t roots x := by
  refine ⟨h.kept x, fun hx => ?_⟩
  induction hx with
  | root x h1 h2 h3 => rcases h.roots x h1 h2 h3 with h4 | h4; exact h4; cases h4
  | kid i e x hp he hx h2 h3 ih => rcases h.kids i e x ih he hx h2 h3 with h4 | h4; exact h4; cases h4
theorem CleanI.len {S : ArS} {t : Nat} {roots K W : List Int} (h : CleanI S t roots K W) (hI : Inv S) : K.length ≤ S.ents.length := by
  have hs : ∀ x ∈ K, x ∈ (List.range S.ents.length).map (fun n : Nat => (n : Int)) := fun x hx => by
    obtain ⟨i, e, h1, h2, _⟩ := owns_range hI.len (h.kept x hx).own.2
    exact List.mem_map.2 ⟨i, List.mem_range.2 h2, h1.symm⟩
  have := List.Nodup.length_le_of_subset h.nodup hs
  simpa using this
/-- What Clean does. -/
def CleanR (S : ArS) (t : Nat) (roots : List Int) (S' : ArS) : Prop :=
  ∃ L : List Int, (∀ x ∈ L, ∃ i : Nat, x = i ∧ 2 ≤ i ∧ i < S.ents.length) ∧ (∀ i : Nat, 2 ≤ i → i < S.ents.length → ((i : Int) ∈ L ↔ ¬ Reach S t roots i)) ∧ S' = { loseL S t L with added := upd S.added t [] }
theorem CleanR.inv {S S' : ArS} {t : Nat} {roots : List Int} (h : CleanR S t roots S') (ht : t < 64) (hI : Inv S) : Inv S' := by
  obtain ⟨L, _, _, rfl⟩ := h
  have h1 := loseL_inv ht L S hI
  have h2 := h1.mark t
  rw [(loseL_keeps t L S).1] at h2
  exact h2
def lenOf : Value → Nat
  | .slice _ n _ => n
  | _ => 0
theorem Sl.chop {w : World} {t : TypeId} {b off m cap : Nat} {W : List Int} {x : Int} (h : Sl w t 1 (.slice (some ⟨b, off, none⟩) (m + 1) cap) (m + 1) (intsV (W ++ [x]))) : Sl w t 1 (.slice (some ⟨b, off, none⟩) m cap) m (intsV W) := by
  obtain ⟨h1, A, cap', e, c1, c2, c3, c4⟩ := h
  injection e with e1 _ e2
  subst e1; subst e2
  rw [intsV_len, List.length_append] at h1
  have hW : W.length = m := by simp at h1; omega
  refine ⟨by rw [intsV_len]; omega, _, _, rfl, by omega, c2, (fun h => nomatch h), fun a ha => ?_⟩
  obtain ⟨cs, d1, d2, d3, d4⟩ := c4 a ha
  refine ⟨cs, d1, d2, d3, ?_⟩
  have : (cs.toList.drop a.off).take (m * 1) = ((cs.toList.drop a.off).take ((m + 1) * 1)).take (m * 1) := by rw [List.take_take]; congr 1; omega
  rw [this, d4]
  unfold intsV
  rw [List.map_append, List.take_append_of_le_length (by simp; omega), List.take_of_length_le (by simp; omega)]
theorem Rd.kids {w : World} {b o : Nat} {e : EntD} (h1 : w.cell? ⟨b, o + 1, none⟩ = some (.int .i64 e.key.a0)) (h2 : w.cell? ⟨b, o + 2, none⟩ = some (.int .i64 e.key.a1)) (h3 : w.cell? ⟨b, o + 3, none⟩ = some (.int .i64 e.key.a2)) (h4 : w.cell? ⟨b, o + 4, none⟩ = some (.int .i64 e.key.a3)) :
    Rd w (b + 1) 1 (.slice (some ⟨b, o + 1, none⟩) 4 4) 4 (intsV (kidsOf e)) :=
  ⟨rfl, _, _, rfl, Nat.le_refl _, by unfold maxLen; omega, fun _ => ⟨_, _, rfl, by omega, fun j u hj => by
    have hlt := (List.getElem?_eq_some_iff.1 hj).1
    have hlt : j < 4 := hlt
    rcases (by omega : j = 0 ∨ j = 1 ∨ j = 2 ∨ j = 3) with rfl | rfl | rfl | rfl
    · cases hj; exact h1
    · cases hj; exact h2
    · cases hj; exact h3
    · cases hj; exact h4⟩⟩
/-- What holds while the work is done. -/
structure CleanW (w : World) (p : Nat) (R : ArR) (S : ArS) (t : Nat) (roots : List Int) (sv : Value) (wx : World) (K W : List Int) : Prop where
  sl : Sl wx IT 1 sv W.length (intsV W)
  ci : CleanI S t roots K W
  map : MapI wx w.heap.size K
  arm : ArM wx p R S
  step : Step p R R w wx
  new : ∀ b, sblk sv = some b → w.heap.size ≤ b
  rng : ∀ x ∈ W, i64r x
  few : W.length ≤ 1000 + 4 * K.length
section
variable {w wx : World} {p : Nat} {R : ArR} {S : ArS} {t : Nat} {roots : List Int} {sv : Value} {K W : List Int}
theorem CleanW.skip {x : Int} {b off m cap : Nat} (h : CleanW w p R S t roots (.slice (some ⟨b, off, none⟩) (m + 1) cap) wx K (W ++ [x])) (hx : x ∈ K ∨ x < 2 ∨ ownsB S t x 0 = false) (ob : Obj) :
    CleanW w p R S t roots (.slice (some ⟨b, off, none⟩) m cap) (wx.alloc ob) K W := by
  have hs := h.sl
  have hl : (W ++ [x]).length = m + 1 := by obtain ⟨_, A, c, e, _⟩ := hs; injection e with _ e _; omega
  rw [hl] at hs
  have hW : W.length = m := by simp at hl; exact hl
  refine ⟨by rw [hW]; exact (hs.chop).alloc ob, h.ci.skip hx, h.map.alloc ob, h.arm.alloc ob, h.step.alloc ob, fun b' hb => h.new b' hb, fun y hy => h.rng y (List.mem_append_left _ hy), ?_⟩
  have := h.few
  simp at this; omega
theorem CleanW.chop3 {x : Int} {b off m cap : Nat} {w1 : World} {ob : Obj} (hA : ArM w p R S) (h : CleanW w p R S t roots (.slice (some ⟨b, off, none⟩) (m + 1) cap) wx K (W ++ [x])) (hm1 : Mod (fun q => q = w.heap.size) (wx.alloc ob) w1) :
    Sl w1 IT 1 (.slice (some ⟨b, off, none⟩) m cap) m (intsV W) ∧ ArM w1 p R S := by
  have hs := h.sl
  have hl : (W ++ [x]).length = m + 1 := by obtain ⟨_, A, c, e, _⟩ := hs; injection e with _ e _; omega
  rw [hl] at hs
  have hbm : w.heap.size ≠ b := by
    obtain ⟨_, cs, hk'⟩ := hs.lt (b := b) rfl
    exact h.map.ne hk'
  exact ⟨((hs.chop).alloc ob).mod hm1 fun q hq e => hbm (by subst e; exact (Option.some.inj hq).symm), (h.arm.alloc ob).keep hm1 fun q hq e => by have := hA.own_lt hq; omega⟩
theorem CleanW.start (hA : ArM w p R S) {w2 : World} (hs : Sl w2 IT 1 sv roots.length (intsV roots)) (hm : Mod (fun _ => False) (w.alloc (.map #[] 0)) w2) (hd : sblk sv = none ∨ sblk sv = some (w.alloc (.map #[] 0)).heap.size) (hr : ∀ x ∈ roots, i64r x) (hn : roots.length ≤ 1000) :
    CleanW w p R S t roots sv w2 [] roots := by
  have hM : Mod (fun _ => False) w w2 := ((Mod.refl (fun _ => False) w).alloc (.map #[] 0)).trans hm fun _ _ h => h
  refine ⟨hs, CleanI.start S t roots, (MapI.made w).mod hm fun h => h, hA.keep hM fun _ _ h => h, ⟨hM.mono fun _ _ h => h.elim, fun _ h => .inl h⟩, fun b hb => ?_, hr, by simp; omega⟩
  rcases hd with h | h
  · rw [h] at hb; cases hb
  · rw [h] at hb; have := Option.some.inj hb; simp at this; omega
theorem CleanW.keep {i : Nat} {e : EntD} {b off m cap : Nat} {w1 w2 : World} {v' : Value} (hA : ArM w p R S) (hI : Inv S) (h : CleanW w p R S t roots (.slice (some ⟨b, off, none⟩) (m + 1) cap) wx K (W ++ [(i : Int)])) (hx : (i : Int) ∉ K) (h2 : 2 ≤ i) (ho : ownsB S t i 0 = true) (he : S.ents[i]? = some e) (ob : Obj)
    (hk : MapI w1 w.heap.size ((i : Int) :: K)) (hm1 : Mod (fun q => q = w.heap.size) (wx.alloc ob) w1) (hs : Sl w2 IT 1 v' (m + 4) (intsV W ++ intsV (kidsOf e))) (hm2 : Mod (fun q => some b = some q) w1 w2) (hd : sblk v' = some b ∨ sblk v' = some w1.heap.size) :
    CleanW w p R S t roots v' w2 ((i : Int) :: K) (W ++ kidsOf e) := by
  have hl : (W ++ [(i : Int)]).length = m + 1 := by obtain ⟨_, A, c, e, _⟩ := h.sl; injection e with _ e _; omega
  have hW : W.length = m := by simp at hl; exact hl
  have hb : w.heap.size ≤ b := h.new b rfl
  have hbm : w.heap.size ≠ b := by
    obtain ⟨_, cs, hk'⟩ := h.sl.lt (b := b) rfl
    exact h.map.ne hk'
  have hM0 : Mod (fun q => w.heap.size ≤ q) wx w2 := (((Mod.refl _ wx).alloc ob).trans hm1 fun q _ e => by subst e; exact Nat.le_refl _).trans hm2 fun q _ e => by have := Option.some.inj e; omega
  have hci := h.ci.keep hx h2 ho he
  have hw1 : wx.heap.size ≤ w1.heap.size := Nat.le_trans (by simp) hm1.size
  refine ⟨?_, hci, hk.mod hm2 fun e => hbm (Option.some.inj e).symm, h.arm.keep hM0 fun q hq => by have := hA.own_lt hq; omega, ?_, fun b' hb' => ?_, fun y hy => ?_, ?_⟩
  · have : intsV (W ++ kidsOf e) = intsV W ++ intsV (kidsOf e) := by unfold intsV; rw [List.map_append]
    rw [this, List.length_append, hW]
    exact hs
  · exact ⟨h.step.mod.trans hM0 fun q hq hle => by omega, fun _ h => .inl h⟩
  · rcases hd with h1 | h1
    · rw [h1] at hb'; have := Option.some.inj hb'; omega
    · rw [h1] at hb'; have := Option.some.inj hb'; have := h.step.mod.size; omega
  · rcases List.mem_append.1 hy with h1 | h1
    · exact h.rng y (List.mem_append_left _ h1)
    · have hok := (hI.keys e (List.mem_of_getElem? he)).1
      obtain ⟨_, k0, k1, k2, k3⟩ := hok
      simp only [kidsOf, List.mem_cons, List.not_mem_nil, or_false] at h1
      rcases h1 with rfl | rfl | rfl | rfl
      · exact k0
      · exact k1
      · exact k2
      · exact k3
  · have := h.few
    simp only [List.length_append, List.length_cons, List.length_nil, kidsOf] at this ⊢; omega
end
/-- What is not kept, below a number. -/
def leftOut (K : List Int) (i : Nat) : List Int := ((List.range i).filter fun j : Nat => decide (2 ≤ j) && !decide ((j : Int) ∈ K)).map fun j : Nat => (j : Int)
theorem leftOut_two (K : List Int) : leftOut K 2 = [] := rfl
theorem leftOut_in {K : List Int} {i : Nat} (h : (i : Int) ∈ K) : leftOut K (i + 1) = leftOut K i := by
  unfold leftOut; rw [List.range_succ, List.filter_append]; simp [h]
theorem leftOut_out {K : List Int} {i : Nat} (h2 : 2 ≤ i) (h : (i : Int) ∉ K) : leftOut K (i + 1) = leftOut K i ++ [(i : Int)] := by
  unfold leftOut; rw [List.range_succ, List.filter_append, List.map_append]; simp [h, h2]
theorem leftOut_mem {K : List Int} {n i : Nat} (hi : i < n) (h2 : 2 ≤ i) : (i : Int) ∈ leftOut K n ↔ (i : Int) ∉ K := by
  unfold leftOut
  rw [List.mem_map]
  constructor
  · rintro ⟨j, hj, he⟩
    have : j = i := by omega
    subst this
    rw [List.mem_filter] at hj
    have := hj.2
    simp at this
    exact this.2
  · intro h
    exact ⟨i, List.mem_filter.2 ⟨List.mem_range.2 hi, by simp [h2, h]⟩, rfl⟩
theorem leftOut_rng {K : List Int} {n : Nat} : ∀ x ∈ leftOut K n, ∃ i : Nat, x = i ∧ 2 ≤ i ∧ i < n := by
  intro x hx
  unfold leftOut at hx
  obtain ⟨j, hj, he⟩ := List.mem_map.1 hx
  rw [List.mem_filter] at hj
  have := hj.2
  simp at this
  exact ⟨j, he.symm, this.1, List.mem_range.1 hj.1⟩
def CleanPost (w : World) (p : Nat) (R : ArR) (S : ArS) (t : Nat) (roots : List Int) (e : Ending) (w' : World) : Prop :=
  ∃ (S' : ArS) (R' : ArR), e = .returned (.int .i64 (S.count t - S'.count t)) ∧ CleanR S t roots S' ∧ ArM w' p R' S' ∧ Step p R R' w w'

set_option maxRecDepth 100000 in
set_option maxHeartbeats 3200000 in
theorem clean_any (w : World) (p : Nat) (R : ArR) (S : ArS) (h : ArM w p R S) (hI : Inv S) (t : Nat) (ht : t < 64) (v : Value) (n : Nat) (roots : List Int) (hv : Sl w IT 1 v n (intsV roots)) (hn : n ≤ 1000) (hro : ∀ x ∈ roots, i64r x) :
    Calls Try.prog 23 #[.pointer (some ⟨p, 0, none⟩), .int .i64 t, v] w (CleanPost w p R S t roots) := by
  have H := Lib.hid h
  have HI := Lib.hid hI
  have HV := Lib.hid hv
  have HRO := Lib.hid hro
  have k4 : (t : Int) < 64 := by omega
  obtain ⟨A, cap, rfl, hc1, hc2⟩ := hv.form
  clear h hI hro hv
  go_enter Try.func23, Try.ntmps23
  go_wp2_with fail
  (with_reducible refine (tenant_any _ t).mono ?_)
  rintro e wq ⟨rfl, rfl⟩
  rw [decide_eq_true (show 0 ≤ (t : Int) ∧ (t : Int) < 64 by omega)]
  have HNO : Hid (¬ Own p R w.heap.size) := fun hb => Nat.lt_irrefl _ (H.out.own_lt hb)
  have hmm := @run_makeMap Try.prog
  have HX : Hid (Rd (w.alloc (.map #[] 0)) (w.alloc (.map #[] 0)).heap.size 1 (.slice A n cap) n (intsV roots)) := (HV.out.alloc _).rd
  go_wp2_with (at_builtin; go_loud (refine wpList_append_sl _ rfl (.const (.slice none 0 0)) (.tmp 24) 28 rfl IT (.int .i64 0) 1 8 Try.underlying28 Try.infoInt rfl (by decide) (v := .slice none 0 0) (n := 0) (xs := []) rfl (Sl.nil _ _ _) rfl (by exact HX.out) (intsV_one roots) (by omega) (by unfold maxLen; omega) ?_); intro v' w2 hs2 hm2 hd2; obtain ⟨A', cap', rfl, g1, g2⟩ := hs2.form)
  have hrl : roots.length = n := HV.out.out
  rw [Nat.zero_add, List.nil_append] at hs2
  rw [Nat.zero_add] at hd2 g1
  have HC := Lib.hid (CleanW.start (t := t) (sv := .slice A' n cap') H.out (by rw [hrl]; exact hs2) (hm2.mono fun b _ h => by simp [sblk] at h) (by
    rcases hd2 with h | ⟨h, _⟩
    · exact .inl h
    · exact .inr h) HRO.out (by omega))
  have HRL := Lib.hid hrl
  have G1 := Lib.hid g1
  have G2 := Lib.hid g2
  clear hm2 hs2 hd2 hmm hrl g1 g2 hc1 hc2 hn
  go_loopw [8] (fun sv wx => ∃ K W, (∃ A c, sv = .slice A W.length c ∧ W.length ≤ c ∧ c ≤ maxLen) ∧ CleanW w p R S t roots sv wx K W) (fun sv wx => 4 * (S.ents.length - mapSize wx w.heap.size) + lenOf sv)
  case atStart => exact ⟨[], roots, ⟨A', cap', by rw [HRL.out], by rw [HRL.out]; exact G1.out, G2.out⟩, HC.out⟩
  case round =>
    obtain ⟨K, W, ⟨A2, cap2, rfl, e1, e2⟩, hcw⟩ := hrel
    have HCW := Lib.hid hcw
    have HKL := Lib.hid (hcw.ci.len HI.out)
    have HMS := Lib.hid hcw.map.size
    rcases List.eq_nil_or_concat W with rfl | ⟨W, x, hW⟩
    · have HDN := Lib.hid (fun x => hcw.ci.done HI.out x)
      have c1 := hcw.arm.cCount ht
      clear hcw
      clear e1
      go_wp2_with fail
      have HW1 := Lib.hid HCW.out.arm
      have HST1 := Lib.hid HCW.out.step
      have HK1 := Lib.hid HCW.out.map
      clear c1 HCW HMS HC HX HV
      generalize hLw : wr.heap.size = hz
      clear hLw
      go_loopw [13] (fun iv wx => ∃ i : Nat, iv = .int .i64 i ∧ 2 ≤ i ∧ i ≤ S.ents.length ∧ ArM wx p R (loseL S t (leftOut K i)) ∧ Step p R R w wx ∧ MapI wx w.heap.size K) (fun iv _ => S.ents.length - (intOf iv).toNat)
      case atStart => exact ⟨2, rfl, Nat.le_refl _, HI.out.len, HW1.out, HST1.out, HK1.out⟩
      case round =>
        obtain ⟨i, rfl, hi2, hi, hA, hst, hK⟩ := hrel
        have hIi := loseL_inv ht (leftOut K i) S HI.out
        have hcn := hIi.cnt_le ht
        have hkp := loseL_keeps t (leftOut K i) S
        have HA := Lib.hid hA
        have HST := Lib.hid hst
        have HKP := Lib.hid hkp
        have HK := Lib.hid hK
        obtain ⟨b, off, cap3, hlv, hc1, hc2, _⟩ := hA.ents (by have := hIi.len; omega)
        have c0 := hA.cList
        rw [hlv, hkp.2.1] at c0
        by_cases hin : i < S.ents.length
        · have hi64 : i64r (i : Int) := ⟨by omega, by have := HI.out.lenN; omega⟩
          have hlk := hK.look hi64
          have hlt : (i : Int) < (S.ents.length : Int) := by omega
          have hwi := wrap_nat' i (by have := HI.out.lenN; unfold maxLen; omega)
          have HIN := Lib.hid hin
          have HI2 := Lib.hid hi2
          by_cases hk : (i : Int) ∈ K
          · rw [decide_eq_true hk] at hlk
            have HKI := Lib.hid hk
            clear hk hA hst hkp hK hIi hcn hin hi hi2 hi64 hlv hc1
            go_wp2_with fail
            go_roundw
            case rel => exact ⟨i + 1, by go_num, by have := HI2.out; omega, HIN.out, by rw [leftOut_in HKI.out]; exact HA.out.alloc _, HST.out.alloc _, HK.out.alloc _⟩
            case measure => simp [intOf]; have := HIN.out; omega
          · rw [decide_eq_false hk] at hlk
            have HKI := Lib.hid hk
            have HLO := Lib.hid (lose_any _ p R _ (HA.out.alloc (.cells #[] 104)) t ht i (by rw [hkp.2.1]; exact hin) (by omega))
            clear hk hA hst hkp hK hIi hcn hin hi hi2 hi64 hlv hc1
            go_wp2_with fail
            (with_reducible refine HLO.out.mono ?_)
            rintro e w5 ⟨rfl, hm5, hs5⟩
            have HM5 : Hid (ArM w5 p R (loseL S t (leftOut K (i + 1)))) := by
              show ArM w5 p R _
              rw [leftOut_out HI2.out HKI.out, loseL_snoc, Int.toNat_natCast]; exact hm5
            have HS5 : Hid (Step p R R w w5) := (HST.out.alloc _).trans hs5
            have HK5 := Lib.hid ((HK.out.alloc (.cells #[] 104)).mod hs5.mod HNO.out)
            clear hm5 hs5
            go_wp2_with fail
            go_roundw
            case rel => exact ⟨.int .i64 ((i : Int) + 1), _, _, _, _, _, _, _, _, _, _, _, _, _, _, _, _, _, _, _, _, _, _, _, ⟨i + 1, by go_num, by have := HI2.out; omega, HIN.out, HM5.out, HS5.out, HK5.out⟩, rfl⟩
            case measure => simp [intOf]; have := HIN.out; omega
        · have hge : (S.ents.length : Int) ≤ (i : Int) := by omega
          have hin' : i = S.ents.length := by omega
          rw [hin'] at HA
          have HIF := Lib.hid (loseL_inv ht (leftOut K S.ents.length) S HI.out)
          have c1 := HA.out.cCount ht
          have f1 := HA.out.f (132 + t)
          have c2 := HA.out.cAdded ht
          have hwr : IntKind.i64.wrap (S.count t - (loseL S t (leftOut K S.ents.length)).count t) = S.count t - (loseL S t (leftOut K S.ents.length)).count t := by have := HIF.out.cnt_le ht; have := HI.out.cnt_le ht; rw [IntKind.wrap_i64]; omega
          have HQ := Lib.hid (HA.out.setAdded ht (l := []) (v := nilV) (Sl.nil _ _ _) (fun b hb => by simp [nilV, sblk] at hb))
          have HR := Lib.hid (HST.out.trans (Step.added HA.out (t := t) (v := nilV) (fun b hb => by simp [nilV, sblk] at hb)))
          have c3 : (wr.setCell ⟨p, 132 + t, none⟩ (.slice none 0 0)).cell? ⟨p, 4 + t, none⟩ = some (.int .i64 ((loseL S t (leftOut K S.ents.length)).count t)) := HQ.out.cCount ht
          clear hA hst hkp hK hIi hcn hin hi hi2 hlv hc1 hin'
          go_wp2_with fail
          go_returns
          refine ⟨{ loseL S t (leftOut K S.ents.length) with added := upd S.added t [] }, _, rfl, ⟨leftOut K S.ents.length, leftOut_rng, fun i h2 hi => ?_, rfl⟩, ?_, HR.out⟩
          · rw [leftOut_mem hi h2, HDN.out]
          · have := HQ.out
            rw [(loseL_keeps t (leftOut K S.ents.length) S).1] at this
            exact this
    · rw [List.concat_eq_append] at hW
      subst hW
      have hlw : (W ++ [x]).length = W.length + 1 := by simp
      rw [hlw] at hcw HCW e1 ⊢
      have hsl := hcw.sl
      rw [hlw] at hsl
      obtain ⟨b, off, cap3, hA2, _, _, hbB, hc, _⟩ := hsl.at (by omega)
      injection hA2 with hA2 _ hcap; subst hA2; subst hcap
      have c0 : wr.cell? ⟨b, off + W.length, none⟩ = some (.int .i64 x) := hc W.length _ (intsV_at (by simp))
      have hlk := hcw.map.look (hcw.rng x (by simp))
      have hfew : W.length ≤ 1000 + 4 * K.length := by have := hcw.few; simp at this; omega
      have hwn : wrap64 ((W.length : Nat) : Int) = W.length := by have := HKL.out; have := HI.out.lenN; unfold wrap64; omega
      have HFEW := Lib.hid hfew
      clear hcw hc hsl hlw hfew
      generalize hm : W.length = m at *
      have HM := Lib.hid hm
      clear hm
      have hil : (m : Int) < (m : Int) + 1 := by omega
      by_cases hk : x ∈ K
      · rw [decide_eq_true hk] at hlk
        go_wp2_with fail
        go_roundw
        case rel => exact ⟨K, W, ⟨_, cap2, by rw [HM.out], by rw [HM.out]; omega, e2⟩, HCW.out.skip (.inl hk) _⟩
        case measure =>
          have h1 := (HCW.out.map.alloc (.cells #[] 104)).size
          have h2 := HCW.out.map.size
          rw [h1, h2]
          simp [lenOf]
      · have hkf := hk
        rw [decide_eq_false hk] at hlk
        have HKF := Lib.hid hkf
        clear hk hkf
        by_cases h2 : x < 2
        · go_wp2_with fail
          go_roundw
          case rel => exact ⟨K, W, ⟨_, cap2, by rw [HM.out], by rw [HM.out]; omega, e2⟩, HCW.out.skip (.inr (.inl h2)) _⟩
          case measure =>
            have h1 := (HCW.out.map.alloc (.cells #[] 104)).size
            have h2 := HCW.out.map.size
            rw [h1, h2]
            simp [lenOf]
        · have HO := Lib.hid (owns_any _ p R S (HCW.out.arm.alloc (.cells #[] 104)) HI.out.len t ht x 0)
          cases hb : ownsB S t x 0
          · rw [hb] at HO
            have HB := Lib.hid hb
            clear hb
            go_wp2_with fail
            (with_reducible refine HO.out.mono ?_)
            rintro e wq ⟨rfl, rfl⟩
            go_wp2_with fail
            go_roundw
            case rel => exact ⟨K, W, ⟨_, cap2, by rw [HM.out], by rw [HM.out]; omega, e2⟩, HCW.out.skip (.inr (.inr HB.out)) _⟩
            case measure =>
              have h1 := (HCW.out.map.alloc (.cells #[] 104)).size
              have h2 := HCW.out.map.size
              rw [h1, h2]
              simp [lenOf]
          · rw [hb] at HO
            obtain ⟨i, e, rfl, hi, he⟩ := owns_range HI.out.len hb
            have HB := Lib.hid hb
            have HE := Lib.hid he
            have hil2 : (i : Int) < (S.ents.length : Int) := by omega
            have hi64 := own_i64 HI.out hb
            clear hb he hi
            obtain ⟨w3, hput, hk3, hm3⟩ := (HCW.out.map.alloc (.cells #[] 104)).put hi64 HKF.out (by have := HKL.out; have := HI.out.lenN; unfold maxLen; omega)
            have HK3 := Lib.hid hk3
            have HM3 := Lib.hid hm3
            clear hk3 hm3 hi64
            go_wp2_with fail
            (with_reducible refine HO.out.mono ?_)
            rintro e9 wq ⟨rfl, rfl⟩
            obtain ⟨k1, k2⟩ := HCW.out.chop3 H.out HM3.out
            have HS3 := Lib.hid k1
            have HA3 := Lib.hid k2
            clear k1 k2
            obtain ⟨b2, off2, cap2', hlv, ⟨d0, d1, d2, d3, d4, d5, d6, d7⟩, _⟩ := HA3.out.cells8 HE.out
            have c3 := HA3.out.cList
            rw [hlv] at c3
            have HX3 := Lib.hid (Rd.kids (e := e) d1 d2 d3 d4)
            clear hlv d0 d1 d2 d3 d4 d5 d6 d7
            go_wp2_with (at_builtin; go_loud (refine wpList_append_sl _ rfl (.tmp 61) (.tmp 70) 28 rfl IT (.int .i64 0) 1 8 Try.underlying28 Try.infoInt rfl (by decide) rfl (by exact HS3.out) rfl (by exact HX3.out) (intsV_one _) (by have := HFEW.out; have := HM.out; have := HKL.out; have := HI.out.lenN; omega) (by have := HFEW.out; have := HM.out; have := HKL.out; have := HI.out.lenN; unfold maxLen; omega) ?_); intro v4 w4 hs4 hm4 hd4; obtain ⟨A4, cap4, rfl, g3, g4⟩ := hs4.form)
            have HN := Lib.hid (HCW.out.keep (v' := .slice A4 (m + 4) cap4) H.out HI.out HKF.out (by omega) HB.out HE.out (.cells #[] 104) HK3.out HM3.out hs4 hm4 (by
              rcases hd4 with h | ⟨h, _⟩
              · exact .inl h
              · exact .inr h))
            have hw4 : (W ++ kidsOf e).length = m + 4 := by rw [List.length_append, HM.out]; rfl
            have HW4 := Lib.hid hw4
            have G3 := Lib.hid g3
            have G4 := Lib.hid g4
            clear hs4 hm4 hd4 hw4 g3 g4
            go_wp2_with fail
            go_roundw
            case rel => exact ⟨(i : Int) :: K, W ++ kidsOf e, ⟨A4, cap4, by rw [HW4.out], by rw [HW4.out]; exact G3.out, G4.out⟩, HN.out⟩
            case measure =>
              have h1 := HN.out.map.size
              have h2 := HCW.out.map.size
              have h3 := HN.out.ci.len HI.out
              rw [h1, h2]
              simp only [List.length_cons, lenOf] at h3 ⊢
              omega
end Go.Proofs.Ytfoipadgicjcaaa
