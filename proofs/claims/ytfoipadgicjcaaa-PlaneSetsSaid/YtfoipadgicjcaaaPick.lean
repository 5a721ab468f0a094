/- plane.pick: the walk. -/
import Derived.Test.YtfoipadgicjcaaaMerge
import Derived.Test.YtfoipadgicjcaaaAppW
import Derived.Deep.DeepCutAuto
import Derived.Deep.RegionHeld3
import Derived.BigQuiet
namespace Go.Proofs.Ytfoipadgicjcaaa
open Go.RowKit Go.Shelf Go.Sort Go.Lib

theorem make_func (fn : Fn) (first cap : Array Value) (w : World) : (Instr.makeFunc fn first cap).run Try.prog w = .ok (.func fn first cap) w := rfl

/-- A function that keeps. -/
def KeepFn (k : Nat) (f : Bool → Bool → Bool) : Prop := (∀ args w, (callFunc k args).run Try.prog w = .ok (.enter k args) w) ∧ ∀ (a b : Bool) (w : World), Calls Try.prog k #[.bool a, .bool b] w fun e w' => e = .returned (.bool (f a b)) ∧ w = w'

theorem KeepFn.call {k : Nat} {f : Bool → Bool → Bool} (h : KeepFn k f) (a b : Bool) (w : World) : Calls Try.prog k #[.bool a, .bool b] w fun e w' => e = .returned (.bool (f a b)) ∧ w = w' := h.2 a b w
theorem KeepFn.enters {k : Nat} {f : Bool → Bool → Bool} (h : KeepFn k f) : ∀ args w, (callFunc k args).run Try.prog w = .ok (.enter k args) w := h.1
theorem keep_union : KeepFn 60 (fun a b => a || b) := ⟨enters_of Try.func60 (by kernel_rfl) rfl, fun a b w => by
  cases a <;> cases b <;> (go_enter Try.func60, Try.ntmps60; go_wp2; go_ret; exact ⟨rfl, rfl⟩)⟩
theorem keep_both : KeepFn 61 (fun a b => a && b) := ⟨enters_of Try.func61 (by kernel_rfl) rfl, fun a b w => by
  cases a <;> cases b <;> (go_enter Try.func61, Try.ntmps61; go_wp2; go_ret; exact ⟨rfl, rfl⟩)⟩
theorem keep_minus : KeepFn 62 (fun a b => a && !b) := ⟨enters_of Try.func62 (by kernel_rfl) rfl, fun a b w => by
  cases a <;> cases b <;> (go_enter Try.func62, Try.ntmps62; go_wp2; go_ret; exact ⟨rfl, rfl⟩)⟩

def addL (r : Bool) (c : Int × Int) : List (Int × Int) := if r then [c] else []

/-- What is gathered: the variable pv holds a slice of its own that reads as M. -/
def Gath (w : World) (pv : Nat) (M : List (Int × Int)) : Prop :=
  ∃ v, Blk w pv 56 #[v] ∧ Sl w 62 2 v M.length (flat M) ∧ ∀ q, sblk v = some q → pv < q

theorem Gath.drewN {w : World} {pv : Nat} {M : List (Int × Int)} (h : Gath w pv M) (n : Nat) : Gath (w.drewN n) pv M := by obtain ⟨v, h1, h2, h3⟩ := h; exact ⟨v, h1.drewN n, h2.drewN n, h3⟩
theorem Gath.below {w w' : World} {pv : Nat} {M : List (Int × Int)} (h : Gath w pv M) (hb : Below w.heap.size w w') : Gath w' pv M := by
  obtain ⟨v, h1, h2, h3⟩ := h; exact ⟨v, h1.mod (Mod.of_below_all hb) id, h2.mod (Mod.of_below_all hb) (fun _ _ => id), h3⟩
set_option maxRecDepth 100000 in
set_option maxHeartbeats 1600000 in
theorem add_any (w : World) (x y : Int) (a b : Bool) (k : Nat) (f : Bool → Bool → Bool) (HK : KeepFn k f) (pk pv : Nat) (hk : w.cell? ⟨pk, 0, none⟩ = some (.func (.func k) #[] #[])) (M : List (Int × Int)) (hM : M.length ≤ 8192) (hg : Gath w pv M) :
    Calls Try.prog 69 #[.agg #[.int .i64 x, .int .i64 y], .bool a, .bool b, .pointer (some ⟨pk, 0, none⟩), .pointer (some ⟨pv, 0, none⟩)] w fun e w' =>
      e = .returned (.tuple #[]) ∧ Gath w' pv (M ++ addL (f a b) (x, y)) ∧ Below pv w w' := by
  obtain ⟨v, hv, hs, hf⟩ := hg
  have HK' := Lib.hid HK
  have HV := Lib.hid hv
  have HS := Lib.hid hs
  have HF := Lib.hid hf
  have hc : w.cell? ⟨pv, 0, none⟩ = some v := hv.cellS rfl
  have hfz := hv.frozen 0
  have hlt := hv.lt
  have hklt : pk < w.heap.size := World.block_lt_of_cell? w _ hk
  have heg := HK.enters
  clear HK hv hs hf
  go_enter Try.func69, Try.ntmps69
  go_wp2_with fail
  (with_reducible refine (KeepFn.call HK'.out a b _).mono ?_)
  rintro e w1 ⟨rfl, rfl⟩
  generalize hr : f a b = r
  have HRR := Lib.hid hr
  clear hr
  cases r
  · go_wp2_with fail
    go_end0
    rw [HRR.out]
    simp only [addL, Bool.false_eq_true, if_false, List.append_nil, true_and]
    exact ⟨⟨v, HV.out.alloc _, HS.out.alloc _, HF.out⟩, (Below.refl _ _).alloc (by omega) _⟩
  · have HRD : Hid (Rd ((w.alloc (.cells #[.int .i64 x, .int .i64 y] 62)).alloc (.cells #[.int .i64 x, .int .i64 y] 62)) (w.heap.size + 1 + 1) 2 (.slice (some ⟨w.heap.size + 1, 0, none⟩) 1 1) 1 (flat [(x, y)])) := by
      have := fresh_cells (w.alloc (.cells #[.int .i64 x, .int .i64 y] 62)) [(x, y)] 1 rfl (by unfold maxLen; omega)
      rwa [World.size_alloc] at this
    have HV2 : Hid (Blk ((w.alloc (.cells #[.int .i64 x, .int .i64 y] 62)).alloc (.cells #[.int .i64 x, .int .i64 y] 62)) pv 56 #[v]) := (HV.out.alloc _).alloc _
    have hnv : ¬ sblk v = some pv := fun e => by have := HF.out _ e; omega
    have HNV := Lib.hid hnv
    clear hnv
    go_wp2_with (at_builtin; refine wpList_append_sl _ rfl (.tmp 12) (.tmp 14) 56 rfl 62 (.agg #[.int .i64 0, .int .i64 0]) 2 16 Try.underlying56 Try.info62 rfl (by decide) rfl ((HS.out.alloc _).alloc _) rfl HRD.out flat_one (by omega) (by unfold maxLen; omega) ?_; intro v5 w5 hs5 hm5 hd5; obtain ⟨A5, cap5, rfl, _, _⟩ := hs5.form; have hv5 := HV2.out.mod (S := fun z => sblk v = some z) hm5 HNV.out; have c5 : w5.cell? ⟨pv, 0, none⟩ = some v := hv5.cellS rfl; have f5 := hv5.frozen 0)
    have hm5 : Mod (fun z => sblk v = some z) ((w.alloc (.cells #[.int .i64 x, .int .i64 y] 62)).alloc (.cells #[.int .i64 x, .int .i64 y] 62)) w5 := hm5
    have hd5 : sblk (.slice A5 (M.length + 1) cap5) = sblk v ∨ sblk (.slice A5 (M.length + 1) cap5) = some ((w.alloc (.cells #[.int .i64 x, .int .i64 y] 62)).alloc (.cells #[.int .i64 x, .int .i64 y] 62)).heap.size ∧ _ := hd5
    have HV5 := Lib.hid hv5
    have HS5 : Hid (Sl w5 62 2 (.slice A5 (M.length + 1) cap5) (M ++ [(x, y)]).length (flat (M ++ [(x, y)]))) := by
      show Sl _ _ _ _ _ _
      rw [List.length_append, flat_append]; exact hs5
    have HF5 : Hid (∀ q, sblk (.slice A5 (M.length + 1) cap5) = some q → pv < q) := fun q hq => by
      rcases hd5 with e | ⟨e, _⟩
      · exact HF.out q (by rw [← e]; exact hq)
      · rw [e] at hq; injection hq with hq; rw [World.size_alloc, World.size_alloc] at hq; omega
    have HB5 : Hid (Below pv w w5) := by
      have h1 : Below pv w ((w.alloc (.cells #[.int .i64 x, .int .i64 y] 62)).alloc (.cells #[.int .i64 x, .int .i64 y] 62)) := ((Below.refl _ _).alloc (by omega) _).alloc (by rw [World.size_alloc]; omega) _
      exact h1.trans (hm5.below (by rw [World.size_alloc, World.size_alloc]; omega) fun z hz e => by have := HF.out z e; omega)
    have HN5 : Hid (sblk (.slice A5 (M.length + 1) cap5) ≠ some pv) := fun e => by have := HF5.out _ e; omega
    go_end0
    rw [HRR.out]
    simp only [addL, if_true, true_and]
    exact ⟨⟨_, HV5.out.set 0 _, HS5.out.far HN5.out _, HF5.out⟩, HB5.out.setCell (Nat.le_refl _) _⟩

def lenV : Value → Nat
  | .slice _ n _ => n
  | _ => 0

theorem order_below (a b : Int × Int) (W : World) : Calls Try.prog 54 #[.agg #[.int .i64 a.1, .int .i64 a.2], .agg #[.int .i64 b.1, .int .i64 b.2]] W fun e w' => e = .returned (.int .i64 (ordZ a b)) ∧ Below W.heap.size W w' := by
  refine (order_any a b W).mono ?_
  rintro e w' ⟨rfl, q, os', rfl⟩
  refine ⟨rfl, ⟨rfl, rfl, rfl, ?_, fun k hk => ?_⟩⟩
  · simp [grow]
  · simp [grow, Array.getElem?_append_left hk]

theorem below_dr {B : Nat} {a w : World} (h : Below B a w) (n : Nat) : Below B a (w.drewN n) := ⟨h.os, h.tape, h.output, h.size, h.block⟩
theorem put_addL (b : Bool) (c : Int × Int) (r : List (Int × Int)) : put b c r = addL b c ++ r := by cases b <;> rfl
theorem addL_len (b : Bool) (c : Int × Int) : (addL b c).length ≤ 1 := by cases b <;> simp [addL]
section
variable {f : Bool → Bool → Bool} {x0 y0 : Int × Int} {xs ys : List (Int × Int)}
theorem mk_l : mergeK f (x0 :: xs) [] = addL (f true false) x0 ++ mergeK f xs [] := by rw [mergeK, put_addL]
theorem mk_r : mergeK f [] (y0 :: ys) = addL (f false true) y0 ++ mergeK f [] ys := by rw [mergeK, put_addL]
theorem mk_lt (h : ltC x0 y0) : mergeK f (x0 :: xs) (y0 :: ys) = addL (f true false) x0 ++ mergeK f xs (y0 :: ys) := by rw [mergeK, if_pos h, put_addL]
theorem mk_gt (h : ltC y0 x0) : mergeK f (x0 :: xs) (y0 :: ys) = addL (f false true) y0 ++ mergeK f (x0 :: xs) ys := by
  rw [mergeK, if_neg (fun h' => ltC_irrefl _ (ltC_trans _ _ _ h h')), if_pos h, put_addL]
theorem mk_eq : mergeK f (x0 :: xs) (x0 :: ys) = addL (f true true) x0 ++ mergeK f xs ys := by rw [mergeK, if_neg (ltC_irrefl _), if_neg (ltC_irrefl _), put_addL]
end
theorem step_eq {M a b c d : List (Int × Int)} (h : M ++ b = c) (e : b = a ++ d) : (M ++ a) ++ d = c := by rw [List.append_assoc, ← e]; exact h
theorem step_len {M : List (Int × Int)} {b : Bool} {c : Int × Int} {n : Nat} (h : M.length + 1 ≤ n) : (M ++ addL b c).length ≤ n := by
  rw [List.length_append]; have := addL_len b c; omega

theorem rd_head {w : World} {B n cap : Nat} {A : Option Addr} {x : List (Int × Int)} (h : Rd w B 2 (.slice A n cap) n (flat x)) (hn : 0 < n) :
    ∃ x0 xs b off, x = x0 :: xs ∧ A = some ⟨b, off, none⟩ ∧ b < B ∧ w.cell? ⟨b, off, none⟩ = some (.int .i64 x0.1) ∧ w.cell? ⟨b, off + 1, none⟩ = some (.int .i64 x0.2) ∧ n ≤ cap ∧ cap ≤ maxLen ∧ Rd w B 2 (.slice (if cap = 1 then some ⟨b, off, none⟩ else some ⟨b, off + 2, none⟩) (n - 1) (cap - 1)) (n - 1) (flat xs) := by
  obtain ⟨hl, hp⟩ := h.pairs
  obtain ⟨b, off, cap', e, h1, h2, h3, h4⟩ := hp hn
  injection e with e1 _ e3
  subst e1 e3
  obtain ⟨c1, c2⟩ := h4 0 hn
  have hc := h.cut (k := 1) hn
  cases x with
  | nil => simp at hl; omega
  | cons x0 xs =>
    simp only [Nat.one_mul, List.drop_succ_cons, List.drop_zero] at hc
    simp only [Nat.zero_mul, Nat.add_zero, List.getElem!_cons_zero] at c1 c2
    refine ⟨x0, xs, b, off, rfl, rfl, h3, c1, c2, h1, h2, ?_⟩
    by_cases h : cap = 1
    · rw [if_pos h]
      obtain ⟨k1, A', cap2, e, k2, k3, _⟩ := hc
      injection e with _ _ e
      subst e
      exact ⟨k1, _, _, rfl, k2, k3, fun h' => by omega⟩
    · rw [if_neg h]; exact hc

def PickPost (w : World) (f : Bool → Bool → Bool) (l1 l2 : List (Int × Int)) (e : Ending) (w' : World) : Prop :=
  ∃ t1 t2, Tid l1 t1 ∧ Tid l2 t2 ∧ Below w.heap.size w w' ∧
    (((mergeK f t1 t2).length ≤ 4096 ∧ ∃ v', e = .returned (.tuple #[v', .int .i64 0]) ∧ Sl w' 62 2 v' (mergeK f t1 t2).length (flat (mergeK f t1 t2)) ∧ (∀ q, sblk v' = some q → w.heap.size ≤ q)) ∨
      (4096 < (mergeK f t1 t2).length ∧ e = .returned (.tuple #[.slice none 0 0, .int .i64 5])))

set_option maxRecDepth 100000 in
set_option maxHeartbeats 3200000 in
theorem pick_any (w : World) (k : Nat) (f : Bool → Bool → Bool) (HK : KeepFn k f) (n1 n2 : Nat) (v1 v2 : Value) (l1 l2 : List (Int × Int)) (h1 : Rd w w.heap.size 2 v1 n1 (flat l1)) (h2 : Rd w w.heap.size 2 v2 n2 (flat l2)) (hn1 : n1 ≤ 4096) (hn2 : n2 ≤ 4096)
    (ho1 : ∀ c ∈ l1, okC c) (ho2 : ∀ c ∈ l2, okC c) :
    Calls Try.prog 59 #[v1, v2, .func (.func k) #[] #[]] w (PickPost w f l1 l2) := by
  have H1 := Lib.hid h1
  have H2 := Lib.hid h2
  have HO1 := Lib.hid ho1
  have HO2 := Lib.hid ho2
  have HK' := Lib.hid HK
  have HL1 : Hid (l1.length = n1) := (h1.pairs).1
  have HL2 : Hid (l2.length = n2) := (h2.pairs).1
  have hmf := make_func
  clear h1 h2 ho1 ho2 HK
  go_enter Try.func59, Try.ntmps59
  go_wp2_with fail
  generalize hw1 : World.alloc w _ = w1
  have HB1 : Hid (Below w.heap.size w w1) := by subst hw1; exact (Below.refl _ _).alloc (Nat.le_refl _) _
  have HK1 : Hid (Blk w1 w.heap.size 119 #[.func (.func k) #[] #[]]) := by subst hw1; exact Blk.new w _ _
  have HZ1 : Hid (w.heap.size < w1.heap.size) := by subst hw1; show _ < _; rw [World.size_alloc]; omega
  clear hw1
  (with_reducible refine (tidy_ok _ w.heap.size n1 _ l1 (H1.out.below HB1.out) HB1.out.size hn1 HO1.out).mono ?_)
  rintro e w2 ⟨A1, m1, t1, rfl, ht1, hs1, hf1, hb2⟩
  have hm1 : t1.length = m1 := by have e1 := hs1.1; rw [flat_length] at e1; omega
  have hm1b : m1 ≤ 4096 := by have e2 := tid_length ht1; have e3 := HL1.out; omega
  subst hm1
  have HT1 := Lib.hid ht1
  have HS1 := Lib.hid hs1
  have HB2 : Hid (Below w.heap.size w w2) := HB1.out.trans (hb2.mono HB1.out.size)
  have HK2 : Hid (Blk w2 w.heap.size 119 #[.func (.func k) #[] #[]]) := (hb2.block _ HZ1.out).trans HK1.out
  have HZ2 : Hid (w.heap.size < w2.heap.size) := Nat.lt_of_lt_of_le HZ1.out hb2.size
  clear ht1 hs1 hf1 hb2 HB1 HK1 HZ1 H1
  go_wp2_with fail
  (with_reducible refine (tidy_ok _ w.heap.size n2 _ l2 (H2.out.below HB2.out) HB2.out.size hn2 HO2.out).mono ?_)
  rintro e w3 ⟨A2, m2, t2, rfl, ht2, hs2, hf2, hb3⟩
  have hm2 : t2.length = m2 := by have e1 := hs2.1; rw [flat_length] at e1; omega
  have hm2b : m2 ≤ 4096 := by have e2 := tid_length ht2; have e3 := HL2.out; omega
  subst hm2
  have HT2 := Lib.hid ht2
  have HS2 := Lib.hid hs2.rd
  have HS13 : Hid (Rd w3 w3.heap.size 2 (.slice A1 t1.length t1.length) t1.length (flat t1)) := (HS1.out.rd.below hb3).more hb3.size
  have HB3 : Hid (Below w.heap.size w w3) := HB2.out.trans (hb3.mono HB2.out.size)
  have hk3 : Blk w3 w.heap.size 119 #[.func (.func k) #[] #[]] := (hb3.block _ HZ2.out).trans HK2.out
  have HK3 := Lib.hid hk3
  have hz3 : w.heap.size < w3.heap.size := Nat.lt_of_lt_of_le HZ2.out hb3.size
  have HNIL := Lib.hid (Sl.nil w3 62 2)
  clear ht2 hs2 hf2 hb3 HB2 HK2 HZ2 H2 HS1 hk3
  go_wp2_with fail
  generalize hpv : w3.heap.size = pv at *
  have HPV := Lib.hid hpv
  clear hpv
  go_loopw [8, 10] (fun av bv wx => ∃ (x y M : List (Int × Int)) (nx ny : Nat), Rd wx pv 2 av nx (flat x) ∧ Rd wx pv 2 bv ny (flat y) ∧ Gath wx pv M ∧ M ++ mergeK f x y = mergeK f t1 t2 ∧ M.length + nx + ny ≤ 8192 ∧ Below pv w3 wx) (fun av bv _ => lenV av + lenV bv)
  case atStart =>
    have hbn : Below pv w3 (w3.alloc (.cells #[.slice none 0 0] 56)) := (Below.refl _ _).alloc (by rw [HPV.out]; exact Nat.le_refl _) _
    exact ⟨t1, t2, [], _, _, HS13.out.below hbn, HS2.out.below hbn, ⟨_, by rw [← HPV.out]; exact Blk.new w3 _ _, Sl.nil _ _ _, fun q hq => by simp [sblk] at hq⟩, by rw [List.nil_append], by simp only [List.length_nil]; omega, hbn⟩
  case round =>
    obtain ⟨x, y, M, nx, ny, hx, hy, hg, hmk, hlen, hb⟩ := hrel
    obtain ⟨Ax, cx, rfl, hcx, hcx2⟩ := hx.form
    obtain ⟨Ay, cy, rfl, hcy, hcy2⟩ := hy.form
    unfold maxLen at hcx2 hcy2
    have HB := Lib.hid hb
    have HMK := Lib.hid hmk
    have HX := Lib.hid hx
    have HY := Lib.hid hy
    have HG := Lib.hid hg
    have hkr : Blk wr w.heap.size 119 #[.func (.func k) #[] #[]] := (hb.block _ hz3).trans HK3.out
    have HKR := Lib.hid hkr
    clear hb hmk hx hy hg hkr HS2 HS13
    have hpvr : pv ≤ wr.heap.size := by have := HB.out.size; have := HPV.out; omega
    rcases Nat.eq_zero_or_pos nx with h0x | h0x
    · subst h0x
      have x_nil : x = [] := List.eq_nil_of_length_eq_zero HX.out.pairs.1
      subst x_nil
      rcases Nat.eq_zero_or_pos ny with h0y | h0y
      · --C0
        subst h0y
        have y_nil : y = [] := List.eq_nil_of_length_eq_zero HY.out.pairs.1
        subst y_nil
        obtain ⟨vo, hvo, hso, hfo⟩ := HG.out
        obtain ⟨Ao, co, rfl, _, hco⟩ := hso.form
        have hmm : M = mergeK f t1 t2 := by have := HMK.out; rwa [mergeK, List.append_nil] at this
        have HMM := Lib.hid hmm
        have co0 : wr.cell? ⟨pv, 0, none⟩ = some (.slice Ao M.length co) := hvo.cellS rfl
        have HSO := Lib.hid hso
        have HFO := Lib.hid hfo
        have HBT : Hid (Below w.heap.size w wr) := HB3.out.trans (HB.out.mono (Nat.le_of_lt hz3))
        generalize hM : M.length = mm at co0
        have HM := Lib.hid hM
        clear hmm hvo hso hfo hM
        by_cases hfull : (4096 : Int) < (mm : Int)
        · go_wp2
          go_ret2
          exact ⟨t1, t2, HT1.out, HT2.out, HBT.out, .inr ⟨by rw [← HMM.out, HM.out]; omega, rfl⟩⟩
        · go_wp2
          go_ret2
          exact ⟨t1, t2, HT1.out, HT2.out, HBT.out, .inl ⟨by rw [← HMM.out, HM.out]; omega, _, rfl, by rw [← HMM.out, ← HM.out]; exact HSO.out, fun q hq => by have := HFO.out q (by rw [HM.out]; exact hq); omega⟩⟩
      · --C2
        have hyi : (0 : Int) < (ny : Int) := by omega
        obtain ⟨y0, ys, bY, oy, rfl, rfl, hby, y1, y2, hy3, hy4, hy5⟩ := rd_head HY.out h0y
        have HY5 := Lib.hid hy5
        unfold maxLen at hy4
        clear hy5
        have hbyr : bY < wr.heap.size := World.block_lt_of_cell? wr _ y1
        have hyz : ((ny : Int) == 0) = false := by simp; omega
        go_wp2_with fail
        go_quiet (fail)
        go_wp2_with fail
        go_quiet (fail)
        go_wp2_with fail
        (with_reducible refine (add_any _ y0.1 y0.2 false true k f HK'.out w.heap.size pv ((HKR.out.drewN _).cellS rfl) M (by omega) (HG.out.drewN _)).mono ?_)
        rintro e w5 ⟨rfl, hg5, hb5⟩
        have HB45 : Hid (Below pv wr w5) := ⟨hb5.os, hb5.tape, hb5.output, hb5.size, hb5.block⟩
        have HG5 := Lib.hid hg5
        clear hb5 hg5
        go_wp2_with fail
        go_roundw
        case rel => exact ⟨[], ys, M ++ addL (f false true) y0, 0, ny - 1, HX.out.below HB45.out, HY5.out.below HB45.out, HG5.out, step_eq HMK.out mk_r, by have := step_len (b := f false true) (c := y0) (Nat.le_refl (M.length + 1)); omega, HB.out.trans HB45.out⟩
        case measure => simp [lenV]; omega
    · have hxi : (0 : Int) < (nx : Int) := by omega
      obtain ⟨x0, xs, bx, ox, rfl, rfl, hbx, x1, x2, hx3, hx4, hx5⟩ := rd_head HX.out h0x
      have HX5 := Lib.hid hx5
      unfold maxLen at hx4
      clear hx5
      have hbxr : bx < wr.heap.size := World.block_lt_of_cell? wr _ x1
      have hxz : ((nx : Int) == 0) = false := by simp; omega
      rcases Nat.eq_zero_or_pos ny with h0y | h0y
      · --C1
        subst h0y
        have y_nil : y = [] := List.eq_nil_of_length_eq_zero HY.out.pairs.1
        subst y_nil
        go_wp2_with fail
        go_quiet (fail)
        go_wp2_with fail
        (with_reducible refine (add_any _ x0.1 x0.2 true false k f HK'.out w.heap.size pv ((HKR.out.drewN _).cellS rfl) M (by omega) (HG.out.drewN _)).mono ?_)
        rintro e w5 ⟨rfl, hg5, hb5⟩
        have HB45 : Hid (Below pv wr w5) := ⟨hb5.os, hb5.tape, hb5.output, hb5.size, hb5.block⟩
        have HG5 := Lib.hid hg5
        clear hb5 hg5
        go_wp2_with fail
        go_roundw
        case rel => exact ⟨xs, [], M ++ addL (f true false) x0, nx - 1, 0, HX5.out.below HB45.out, HY.out.below HB45.out, HG5.out, step_eq HMK.out mk_l, by have := step_len (b := f true false) (c := x0) (Nat.le_refl (M.length + 1)); omega, HB.out.trans HB45.out⟩
        case measure => simp [lenV]; omega
      · have hyi : (0 : Int) < (ny : Int) := by omega
        obtain ⟨y0, ys, bY, oy, rfl, rfl, hby, y1, y2, hy3, hy4, hy5⟩ := rd_head HY.out h0y
        have HY5 := Lib.hid hy5
        unfold maxLen at hy4
        clear hy5
        have hbyr : bY < wr.heap.size := World.block_lt_of_cell? wr _ y1
        have hyz : ((ny : Int) == 0) = false := by simp; omega
        rcases ltC_tri x0 y0 with hlt | heq | hgt
        · --C3
          go_wp2_with fail
          have hor : decide (ordZ x0 y0 < 0) = true := decide_eq_true ((ordZ_neg _ _).2 hlt)
          go_region_held3 (fun w' => w'.cell? ⟨bx, ox, none⟩ = some (.int .i64 x0.1) ∧ w'.cell? ⟨bx, ox + 1, none⟩ = some (.int .i64 x0.2) ∧ w'.cell? ⟨bY, oy, none⟩ = some (.int .i64 y0.1) ∧ w'.cell? ⟨bY, oy + 1, none⟩ = some (.int .i64 y0.2)) (first | exact ⟨x1, x2, y1, y2⟩ | exact ⟨(hb4.cell (p := ⟨bx, _, none⟩) hbxr).trans x1, (hb4.cell (p := ⟨bx, _, none⟩) hbxr).trans x2, (hb4.cell (p := ⟨bY, _, none⟩) hbyr).trans y1, (hb4.cell (p := ⟨bY, _, none⟩) hbyr).trans y2⟩)
            ((go_at_call 54; refine (order_below x0 y0 _).mono ?_; rintro e w4 ⟨rfl, hb4⟩))
          have hb4' : Below wr.heap.size wr w4 := ⟨hb4.os, hb4.tape, hb4.output, hb4.size, hb4.block⟩
          have x14 := (hb4'.cell (p := ⟨bx, _, none⟩) hbxr).trans x1
          have x24 := (hb4'.cell (p := ⟨bx, _, none⟩) hbxr).trans x2
          have y14 := (hb4'.cell (p := ⟨bY, _, none⟩) hbyr).trans y1
          have y24 := (hb4'.cell (p := ⟨bY, _, none⟩) hbyr).trans y2
          have hbxr4 : bx < w4.heap.size := World.block_lt_of_cell? w4 _ x14
          have hbyr4 : bY < w4.heap.size := World.block_lt_of_cell? w4 _ y14
          have HK4w : Hid (Blk w4 w.heap.size 119 #[.func (.func k) #[] #[]]) := (hb4'.block _ HKR.out.lt).trans HKR.out
          have HG4 : Hid (Gath w4 pv M) := HG.out.below hb4'
          have HB4r : Hid (Below pv wr w4) := hb4'.mono hpvr
          clear hb4 hb4' hor
          go_wp2_with fail
          (with_reducible refine (add_any _ x0.1 x0.2 true false k f HK'.out w.heap.size pv (HK4w.out.cellS rfl) M (by omega) HG4.out).mono ?_)
          rintro e w9 ⟨rfl, hg9, hb9⟩
          have HB9 : Hid (Below pv wr w9) := HB4r.out.trans hb9
          have HG9 := Lib.hid hg9
          clear hb9 hg9
          go_wp2_with fail
          go_roundw
          case rel => exact ⟨xs, y0 :: ys, M ++ addL (f true false) x0, nx - 1, ny, HX5.out.below HB9.out, HY.out.below HB9.out, HG9.out, step_eq HMK.out (mk_lt hlt), by have := step_len (b := f true false) (c := x0) (Nat.le_refl (M.length + 1)); omega, HB.out.trans HB9.out⟩
          case measure => simp [lenV]; omega
        · --C5
          subst heq
          have hz0 : ordZ x0 x0 = 0 := (ordZ_zero _ _).2 rfl
          go_wp2_with fail
          have hor : decide (ordZ x0 x0 < 0) = false := decide_eq_false (by omega)
          go_region_held3 (fun w' => w'.cell? ⟨bx, ox, none⟩ = some (.int .i64 x0.1) ∧ w'.cell? ⟨bx, ox + 1, none⟩ = some (.int .i64 x0.2) ∧ w'.cell? ⟨bY, oy, none⟩ = some (.int .i64 x0.1) ∧ w'.cell? ⟨bY, oy + 1, none⟩ = some (.int .i64 x0.2)) (first | exact ⟨x1, x2, y1, y2⟩ | exact ⟨(hb4.cell (p := ⟨bx, _, none⟩) hbxr).trans x1, (hb4.cell (p := ⟨bx, _, none⟩) hbxr).trans x2, (hb4.cell (p := ⟨bY, _, none⟩) hbyr).trans y1, (hb4.cell (p := ⟨bY, _, none⟩) hbyr).trans y2⟩)
            ((go_at_call 54; refine (order_below x0 x0 _).mono ?_; rintro e w4 ⟨rfl, hb4⟩))
          have hb4' : Below wr.heap.size wr w4 := ⟨hb4.os, hb4.tape, hb4.output, hb4.size, hb4.block⟩
          have x14 := (hb4'.cell (p := ⟨bx, _, none⟩) hbxr).trans x1
          have x24 := (hb4'.cell (p := ⟨bx, _, none⟩) hbxr).trans x2
          have y14 := (hb4'.cell (p := ⟨bY, _, none⟩) hbyr).trans y1
          have y24 := (hb4'.cell (p := ⟨bY, _, none⟩) hbyr).trans y2
          have hbxr4 : bx < w4.heap.size := World.block_lt_of_cell? w4 _ x14
          have hbyr4 : bY < w4.heap.size := World.block_lt_of_cell? w4 _ y14
          have HK4w : Hid (Blk w4 w.heap.size 119 #[.func (.func k) #[] #[]]) := (hb4'.block _ HKR.out.lt).trans HKR.out
          have HG4 : Hid (Gath w4 pv M) := HG.out.below hb4'
          have HB4r : Hid (Below pv wr w4) := hb4'.mono hpvr
          have hpv4 : pv ≤ w4.heap.size := Nat.le_trans hpvr hb4'.size
          clear hb4 hb4' hor
          go_wp2_with fail
          have hor2 : decide (0 < ordZ x0 x0) = false := decide_eq_false (by omega)
          go_region_held3 (fun w' => w'.cell? ⟨bx, ox, none⟩ = some (.int .i64 x0.1) ∧ w'.cell? ⟨bx, ox + 1, none⟩ = some (.int .i64 x0.2) ∧ w'.cell? ⟨bY, oy, none⟩ = some (.int .i64 x0.1) ∧ w'.cell? ⟨bY, oy + 1, none⟩ = some (.int .i64 x0.2)) (first | exact ⟨x14, x24, y14, y24⟩ | exact ⟨(hb5.cell (p := ⟨bx, _, none⟩) hbxr4).trans x14, (hb5.cell (p := ⟨bx, _, none⟩) hbxr4).trans x24, (hb5.cell (p := ⟨bY, _, none⟩) hbyr4).trans y14, (hb5.cell (p := ⟨bY, _, none⟩) hbyr4).trans y24⟩)
            ((go_at_call 54; refine (order_below x0 x0 _).mono ?_; rintro e w5 ⟨rfl, hb5⟩))
          have hb5' : Below w4.heap.size w4 w5 := ⟨hb5.os, hb5.tape, hb5.output, hb5.size, hb5.block⟩
          have x15 := (hb5'.cell (p := ⟨bx, _, none⟩) hbxr4).trans x14
          have x25 := (hb5'.cell (p := ⟨bx, _, none⟩) hbxr4).trans x24
          have y15 := (hb5'.cell (p := ⟨bY, _, none⟩) hbyr4).trans y14
          have y25 := (hb5'.cell (p := ⟨bY, _, none⟩) hbyr4).trans y24
          have hbxr5 : bx < w5.heap.size := World.block_lt_of_cell? w5 _ x15
          have hbyr5 : bY < w5.heap.size := World.block_lt_of_cell? w5 _ y15
          have HK5w : Hid (Blk w5 w.heap.size 119 #[.func (.func k) #[] #[]]) := (hb5'.block _ HK4w.out.lt).trans HK4w.out
          have HG5 : Hid (Gath w5 pv M) := HG4.out.below hb5'
          have HB5r : Hid (Below pv wr w5) := HB4r.out.trans (hb5'.mono hpv4)
          clear hb5 hb5' hor2
          go_wp2_with fail
          (with_reducible refine (add_any _ x0.1 x0.2 true true k f HK'.out w.heap.size pv (HK5w.out.cellS rfl) M (by omega) HG5.out).mono ?_)
          rintro e w9 ⟨rfl, hg9, hb9⟩
          have HB9 : Hid (Below pv wr w9) := HB5r.out.trans hb9
          have HG9 := Lib.hid hg9
          clear hb9 hg9
          go_wp2_with fail
          go_quiet (fail)
          go_wp2_with fail
          go_roundw
          case rel => exact ⟨xs, ys, M ++ addL (f true true) x0, nx - 1, ny - 1, HX5.out.below (below_dr HB9.out _), HY5.out.below (below_dr HB9.out _), HG9.out.drewN _, step_eq HMK.out mk_eq, by have := step_len (b := f true true) (c := x0) (Nat.le_refl (M.length + 1)); omega, below_dr (HB.out.trans HB9.out) _⟩
          case measure => simp [lenV]; omega
        · --C4
          go_wp2_with fail
          have hor : decide (ordZ x0 y0 < 0) = false := decide_eq_false fun h => ltC_irrefl _ (ltC_trans _ _ _ hgt ((ordZ_neg _ _).1 h))
          go_region_held3 (fun w' => w'.cell? ⟨bx, ox, none⟩ = some (.int .i64 x0.1) ∧ w'.cell? ⟨bx, ox + 1, none⟩ = some (.int .i64 x0.2) ∧ w'.cell? ⟨bY, oy, none⟩ = some (.int .i64 y0.1) ∧ w'.cell? ⟨bY, oy + 1, none⟩ = some (.int .i64 y0.2)) (first | exact ⟨x1, x2, y1, y2⟩ | exact ⟨(hb4.cell (p := ⟨bx, _, none⟩) hbxr).trans x1, (hb4.cell (p := ⟨bx, _, none⟩) hbxr).trans x2, (hb4.cell (p := ⟨bY, _, none⟩) hbyr).trans y1, (hb4.cell (p := ⟨bY, _, none⟩) hbyr).trans y2⟩)
            ((go_at_call 54; refine (order_below x0 y0 _).mono ?_; rintro e w4 ⟨rfl, hb4⟩))
          have hb4' : Below wr.heap.size wr w4 := ⟨hb4.os, hb4.tape, hb4.output, hb4.size, hb4.block⟩
          have x14 := (hb4'.cell (p := ⟨bx, _, none⟩) hbxr).trans x1
          have x24 := (hb4'.cell (p := ⟨bx, _, none⟩) hbxr).trans x2
          have y14 := (hb4'.cell (p := ⟨bY, _, none⟩) hbyr).trans y1
          have y24 := (hb4'.cell (p := ⟨bY, _, none⟩) hbyr).trans y2
          have hbxr4 : bx < w4.heap.size := World.block_lt_of_cell? w4 _ x14
          have hbyr4 : bY < w4.heap.size := World.block_lt_of_cell? w4 _ y14
          have HK4w : Hid (Blk w4 w.heap.size 119 #[.func (.func k) #[] #[]]) := (hb4'.block _ HKR.out.lt).trans HKR.out
          have HG4 : Hid (Gath w4 pv M) := HG.out.below hb4'
          have HB4r : Hid (Below pv wr w4) := hb4'.mono hpvr
          have hpv4 : pv ≤ w4.heap.size := Nat.le_trans hpvr hb4'.size
          clear hb4 hb4' hor
          go_wp2_with fail
          have hor2 : decide (0 < ordZ x0 y0) = true := decide_eq_true ((ordZ_pos _ _).2 hgt)
          go_region_held3 (fun w' => w'.cell? ⟨bx, ox, none⟩ = some (.int .i64 x0.1) ∧ w'.cell? ⟨bx, ox + 1, none⟩ = some (.int .i64 x0.2) ∧ w'.cell? ⟨bY, oy, none⟩ = some (.int .i64 y0.1) ∧ w'.cell? ⟨bY, oy + 1, none⟩ = some (.int .i64 y0.2)) (first | exact ⟨x14, x24, y14, y24⟩ | exact ⟨(hb5.cell (p := ⟨bx, _, none⟩) hbxr4).trans x14, (hb5.cell (p := ⟨bx, _, none⟩) hbxr4).trans x24, (hb5.cell (p := ⟨bY, _, none⟩) hbyr4).trans y14, (hb5.cell (p := ⟨bY, _, none⟩) hbyr4).trans y24⟩)
            ((go_at_call 54; refine (order_below x0 y0 _).mono ?_; rintro e w5 ⟨rfl, hb5⟩))
          have hb5' : Below w4.heap.size w4 w5 := ⟨hb5.os, hb5.tape, hb5.output, hb5.size, hb5.block⟩
          have x15 := (hb5'.cell (p := ⟨bx, _, none⟩) hbxr4).trans x14
          have x25 := (hb5'.cell (p := ⟨bx, _, none⟩) hbxr4).trans x24
          have y15 := (hb5'.cell (p := ⟨bY, _, none⟩) hbyr4).trans y14
          have y25 := (hb5'.cell (p := ⟨bY, _, none⟩) hbyr4).trans y24
          have hbxr5 : bx < w5.heap.size := World.block_lt_of_cell? w5 _ x15
          have hbyr5 : bY < w5.heap.size := World.block_lt_of_cell? w5 _ y15
          have HK5w : Hid (Blk w5 w.heap.size 119 #[.func (.func k) #[] #[]]) := (hb5'.block _ HK4w.out.lt).trans HK4w.out
          have HG5 : Hid (Gath w5 pv M) := HG4.out.below hb5'
          have HB5r : Hid (Below pv wr w5) := HB4r.out.trans (hb5'.mono hpv4)
          clear hb5 hb5' hor2
          go_wp2_with fail
          (with_reducible refine (add_any _ y0.1 y0.2 false true k f HK'.out w.heap.size pv (HK5w.out.cellS rfl) M (by omega) HG5.out).mono ?_)
          rintro e w9 ⟨rfl, hg9, hb9⟩
          have HB9 : Hid (Below pv wr w9) := HB5r.out.trans hb9
          have HG9 := Lib.hid hg9
          clear hb9 hg9
          go_wp2_with fail
          go_roundw
          case rel => exact ⟨x0 :: xs, ys, M ++ addL (f false true) y0, nx, ny - 1, HX.out.below HB9.out, HY5.out.below HB9.out, HG9.out, step_eq HMK.out (mk_gt hgt), by have := step_len (b := f false true) (c := y0) (Nat.le_refl (M.length + 1)); omega, HB.out.trans HB9.out⟩
          case measure => simp [lenV]; omega

/-- What Union, Both and Minus give of lists that are not too long. -/
def PickOk (w : World) (f : Bool → Bool → Bool) (n1 n2 : Nat) (l1 l2 : List (Int × Int)) (e : Ending) (w' : World) : Prop :=
  ∃ v' m t, e = .returned (.tuple #[v', .int .i64 0]) ∧ t.Pairwise ltC ∧ (∀ c, c ∈ t ↔ f (decide (c ∈ l1)) (decide (c ∈ l2)) = true) ∧ m ≤ n1 + n2 ∧ Rd w' w'.heap.size 2 v' m (flat t) ∧ Below w.heap.size w w'
theorem pick_ok {w w' : World} {f : Bool → Bool → Bool} (hff : f false false = false) {n1 n2 : Nat} {l1 l2 : List (Int × Int)} (h1 : l1.length = n1) (h2 : l2.length = n2) (hn : n1 + n2 ≤ 4096) {e : Ending} (h : PickPost w f l1 l2 e w') : PickOk w f n1 n2 l1 l2 e w' := by
  obtain ⟨t1, t2, ht1, ht2, hb, hc⟩ := h
  have hlen := mergeK_length f t1 t2 ht1.1 ht2.1 hff
  have e1 := tid_length ht1
  have e2 := tid_length ht2
  obtain ⟨s1, s2⟩ := mergeK_spec f hff _ t1 t2 (Nat.le_refl _) ht1.1 ht2.1
  rcases hc with ⟨_, v', rfl, hs, _⟩ | ⟨hf, _⟩
  · refine ⟨v', _, _, rfl, s1, fun c => ?_, by omega, hs.rd, hb⟩
    have k1 : decide (c ∈ t1) = decide (c ∈ l1) := by rw [decide_eq_decide]; exact tid_mem ht1 c
    have k2 : decide (c ∈ t2) = decide (c ∈ l2) := by rw [decide_eq_decide]; exact tid_mem ht2 c
    rw [s2, k1, k2]
  · omega

theorem union_ok (w : World) (n1 n2 : Nat) (v1 v2 : Value) (l1 l2 : List (Int × Int)) (h1 : Rd w w.heap.size 2 v1 n1 (flat l1)) (h2 : Rd w w.heap.size 2 v2 n2 (flat l2)) (hn : n1 + n2 ≤ 4096)
    (ho1 : ∀ c ∈ l1, okC c) (ho2 : ∀ c ∈ l2, okC c) : Calls Try.prog 39 #[v1, v2] w (PickOk w (fun a b => a || b) n1 n2 l1 l2) := by
  have H1 := Lib.hid h1
  have H2 := Lib.hid h2
  have HO1 := Lib.hid ho1
  have HO2 := Lib.hid ho2
  have HL1 : Hid (l1.length = n1) := (h1.pairs).1
  have HL2 : Hid (l2.length = n2) := (h2.pairs).1
  clear h1 h2 ho1 ho2
  go_enter Try.func39, Try.ntmps39
  go_wp2_with fail
  (with_reducible refine (pick_any _ _ _ keep_union n1 n2 v1 v2 l1 l2 H1.out H2.out (by omega) (by omega) HO1.out HO2.out).mono ?_)
  intro e w' hp
  have hok := pick_ok rfl HL1.out HL2.out hn hp
  clear hp
  obtain ⟨v', m, t, rfl, h3, h4, h5, h6, h7⟩ := hok
  have H3 := Lib.hid h3
  have H4 := Lib.hid h4
  have H6 := Lib.hid h6
  have H7 := Lib.hid h7
  clear h3 h4 h6 h7
  go_wp2
  go_ret2
  exact ⟨v', m, t, rfl, H3.out, H4.out, h5, H6.out, H7.out⟩

theorem both_ok (w : World) (n1 n2 : Nat) (v1 v2 : Value) (l1 l2 : List (Int × Int)) (h1 : Rd w w.heap.size 2 v1 n1 (flat l1)) (h2 : Rd w w.heap.size 2 v2 n2 (flat l2)) (hn : n1 + n2 ≤ 4096)
    (ho1 : ∀ c ∈ l1, okC c) (ho2 : ∀ c ∈ l2, okC c) : Calls Try.prog 40 #[v1, v2] w (PickOk w (fun a b => a && b) n1 n2 l1 l2) := by
  have H1 := Lib.hid h1
  have H2 := Lib.hid h2
  have HO1 := Lib.hid ho1
  have HO2 := Lib.hid ho2
  have HL1 : Hid (l1.length = n1) := (h1.pairs).1
  have HL2 : Hid (l2.length = n2) := (h2.pairs).1
  clear h1 h2 ho1 ho2
  go_enter Try.func40, Try.ntmps40
  go_wp2_with fail
  (with_reducible refine (pick_any _ _ _ keep_both n1 n2 v1 v2 l1 l2 H1.out H2.out (by omega) (by omega) HO1.out HO2.out).mono ?_)
  intro e w' hp
  have hok := pick_ok rfl HL1.out HL2.out hn hp
  clear hp
  obtain ⟨v', m, t, rfl, h3, h4, h5, h6, h7⟩ := hok
  have H3 := Lib.hid h3
  have H4 := Lib.hid h4
  have H6 := Lib.hid h6
  have H7 := Lib.hid h7
  clear h3 h4 h6 h7
  go_wp2
  go_ret2
  exact ⟨v', m, t, rfl, H3.out, H4.out, h5, H6.out, H7.out⟩

theorem minus_ok (w : World) (n1 n2 : Nat) (v1 v2 : Value) (l1 l2 : List (Int × Int)) (h1 : Rd w w.heap.size 2 v1 n1 (flat l1)) (h2 : Rd w w.heap.size 2 v2 n2 (flat l2)) (hn : n1 + n2 ≤ 4096)
    (ho1 : ∀ c ∈ l1, okC c) (ho2 : ∀ c ∈ l2, okC c) : Calls Try.prog 41 #[v1, v2] w (PickOk w (fun a b => a && !b) n1 n2 l1 l2) := by
  have H1 := Lib.hid h1
  have H2 := Lib.hid h2
  have HO1 := Lib.hid ho1
  have HO2 := Lib.hid ho2
  have HL1 : Hid (l1.length = n1) := (h1.pairs).1
  have HL2 : Hid (l2.length = n2) := (h2.pairs).1
  clear h1 h2 ho1 ho2
  go_enter Try.func41, Try.ntmps41
  go_wp2_with fail
  (with_reducible refine (pick_any _ _ _ keep_minus n1 n2 v1 v2 l1 l2 H1.out H2.out (by omega) (by omega) HO1.out HO2.out).mono ?_)
  intro e w' hp
  have hok := pick_ok rfl HL1.out HL2.out hn hp
  clear hp
  obtain ⟨v', m, t, rfl, h3, h4, h5, h6, h7⟩ := hok
  have H3 := Lib.hid h3
  have H4 := Lib.hid h4
  have H6 := Lib.hid h6
  have H7 := Lib.hid h7
  clear h3 h4 h6 h7
  go_wp2
  go_ret2
  exact ⟨v', m, t, rfl, H3.out, H4.out, h5, H6.out, H7.out⟩

end Go.Proofs.Ytfoipadgicjcaaa
