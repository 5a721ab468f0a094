/- PlaneOrder: the walk. -/
import Derived.Test.YtfoipadgicjcaaaKeep
import Derived.Test.YtfoipadgicjcaaaW0
import Derived.Deep.DeepCutAuto
import Derived.Deep.RegionHeld3
namespace Go.Proofs.Ytfoipadgicjcaaa
open Go.RowKit

theorem Sl.rd2 {w w' : World} {t : TypeId} {sz n : Nat} {v : Value} {xs : List Value} (h : Sl w t sz v n xs) (hb : Below w.heap.size w w') : Rd w' w.heap.size sz v n xs := h.rd.below hb

/-- A slice of our own that some later steps leave alone. -/
theorem Sl.later {w w' : World} {t : TypeId} {sz n : Nat} {v : Value} {xs : List Value} (h : Sl w t sz v n xs) (hb : Below w.heap.size w w') : Sl w' t sz v n xs :=
  h.of_blk fun b hb' => hb.block b (h.lt hb').1

theorem Rd.drewN {w : World} {B sz n : Nat} {v : Value} {xs : List Value} (h : Rd w B sz v n xs) (d : Nat) : Rd (w.drewN d) B sz v n xs := h

theorem tid_rotate {l t : List (Int × Int)} {k : Nat} (h : Tid (l.drop k ++ l.take k) t) : Tid l t :=
  ⟨h.1, fun c => (h.2 c).trans (by
    rw [List.mem_append]
    constructor
    · rintro (h | h)
      · exact List.mem_of_mem_drop h
      · exact List.mem_of_mem_take h
    · intro h
      rw [← List.take_append_drop k l, List.mem_append] at h
      exact h.symm)⟩
theorem tid_tid {l t t' : List (Int × Int)} (h : Tid l t) (h' : Tid t t') : t' = t := by
  have : Tid t t := ⟨h.1, fun _ => Iff.rfl⟩
  exact h'.unique this

theorem nodup_le {t l : List (Int × Int)} (hn : t.Nodup) (hs : ∀ c ∈ t, c ∈ l) : t.length ≤ l.length := by
  induction t generalizing l with
  | nil => simp
  | cons a r ih =>
    rw [List.nodup_cons] at hn
    have ha := hs a (by simp)
    have h1 := ih (l := l.erase a) hn.2 (fun c hc => by
      rw [List.mem_erase_of_ne]
      · exact hs c (by simp [hc])
      · rintro rfl; exact hn.1 hc)
    rw [List.length_erase_of_mem ha] at h1
    have := List.length_pos_of_mem ha
    simp only [List.length_cons]
    omega
theorem tid_length {l t : List (Int × Int)} (h : Tid l t) : t.length ≤ l.length :=
  nodup_le (List.Pairwise.imp (R := ltC) (S := fun a b => a ≠ b) (fun {a b} hab e => ltC_irrefl a (by rw [← e] at hab; exact hab)) h.1) fun c hc => (h.2 c).1 hc
theorem tid_pair {l t : List (Int × Int)} (h : Tid l t) {q : Nat} (hq : q + 1 < t.length) : ltC t[q]! t[q + 1]! := by
  have e := List.pairwise_iff_getElem.1 h.1 q (q + 1) (by omega) hq (by omega)
  rw [List.getElem!_eq_getElem?_getD, List.getElem?_eq_getElem (by omega), List.getElem!_eq_getElem?_getD, List.getElem?_eq_getElem hq]
  exact e
theorem tid_mem {l t : List (Int × Int)} (h : Tid l t) (c : Int × Int) : c ∈ t ↔ c ∈ l := h.2 c

set_option maxRecDepth 100000 in
set_option maxHeartbeats 1600000 in
theorem order_full (w : World) (n : Nat) (v : Value) (l : List (Int × Int)) (at_ : Int) (h : Rd w w.heap.size 2 v n (flat l)) (hn : n * 16 ≤ 140737488355328) (hbig : 4096 < n) :
    Calls Try.prog 6 #[v, .int .i64 at_] w fun e w' => e = .returned (.bool true) ∧ Below w.heap.size w w' := by
  have H := Lib.hid h
  clear h
  go_enter Try.func6, Try.ntmps6
  go_wp2_with fail
  (with_reducible refine (cells_any _ w.heap.size n _ l H.out hn).mono ?_)
  rintro e w1 ⟨v1, rfl, hs1, hf1, hb1⟩
  obtain ⟨A1, cap1, rfl, d1, d2⟩ := hs1.form
  have HB1 := Lib.hid hb1
  clear hs1 hf1 hb1
  go_wp2_with fail
  (with_reducible refine (tidy_full _ A1 n cap1 hbig (by omega)).mono ?_)
  rintro e w2 ⟨rfl, rfl⟩
  go_wp2_with fail
  (with_reducible refine (alive_true _).mono ?_)
  rintro e w2 ⟨rfl, hb2⟩
  go_wp2
  go_ret
  exact ⟨rfl, HB1.out.trans (hb2.mono HB1.out.size)⟩

set_option maxRecDepth 100000 in
set_option maxHeartbeats 1600000 in
theorem order_range (w : World) (n : Nat) (v : Value) (l : List (Int × Int)) (at_ : Int) (h : Rd w w.heap.size 2 v n (flat l)) (hn : n ≤ 4096) (hbad : ∃ c ∈ l, ¬ okC c) :
    Calls Try.prog 6 #[v, .int .i64 at_] w fun e w' => e = .returned (.bool true) ∧ Below w.heap.size w w' := by
  have H := Lib.hid h
  have HB := Lib.hid hbad
  clear h hbad
  go_enter Try.func6, Try.ntmps6
  go_wp2_with fail
  (with_reducible refine (cells_any _ w.heap.size n _ l H.out (by omega)).mono ?_)
  rintro e w1 ⟨v1, rfl, hs1, hf1, hb1⟩
  have HS1 := Lib.hid hs1.rd
  have HB1 := Lib.hid hb1
  clear hs1 hf1 hb1
  go_wp2_with fail
  (with_reducible refine (tidy_range _ w1.heap.size n _ l HS1.out (Nat.le_refl _) hn HB.out).mono ?_)
  rintro e w2 ⟨rfl, hb2⟩
  have HB2 := Lib.hid hb2
  clear hb2
  go_wp2_with fail
  (with_reducible refine (alive_true _).mono ?_)
  rintro e w3 ⟨rfl, hb3⟩
  go_wp2
  go_ret
  exact ⟨rfl, (HB1.out.trans (HB2.out.mono HB1.out.size)).trans (hb3.mono (Nat.le_trans HB1.out.size HB2.out.size))⟩

set_option maxRecDepth 100000 in
set_option maxHeartbeats 3200000 in
theorem order_ok (w : World) (n : Nat) (v : Value) (l : List (Int × Int)) (at_ : Int) (h0 : -9223372036854775808 ≤ at_) (h0' : at_ ≤ 9223372036854775807) (h : Rd w w.heap.size 2 v n (flat l)) (hn : n ≤ 4096) (hok : ∀ c ∈ l, okC c) :
    Calls Try.prog 6 #[v, .int .i64 at_] w fun e w' => e = .returned (.bool true) ∧ Below w.heap.size w w' := by
  obtain ⟨A, cap, rfl, hc1, hc2⟩ := h.form
  have hlen := (h.pairs).1
  have H := Lib.hid h
  have HOK := Lib.hid hok
  have HAT := Lib.hid (And.intro h0 h0')
  have HLEN := Lib.hid hlen
  unfold maxLen at hc2
  clear h hok h0 h0' hlen
  go_enter Try.func6, Try.ntmps6
  go_wp2_with fail
  (with_reducible refine (cells_any _ w.heap.size n _ l H.out (by omega)).mono ?_)
  rintro e w1 ⟨v1, rfl, hs1, hf1, hb1⟩
  have HS1 := Lib.hid hs1.rd
  have HB1 := Lib.hid hb1
  clear hs1 hf1 hb1
  go_wp2_with fail
  (with_reducible refine (tidy_ok _ w1.heap.size n _ l HS1.out (Nat.le_refl _) hn HOK.out).mono ?_)
  rintro e w2 ⟨A2, m, t, rfl, ht, hs2, hf2, hb2⟩
  have HT := Lib.hid ht
  have HS2 := Lib.hid hs2
  have HB2 : Hid (Below w.heap.size w w2) := HB1.out.trans (hb2.mono HB1.out.size)
  clear ht hs2 hf2 hb2
  rcases Nat.eq_zero_or_pos n with hn0 | hn0
  · subst hn0
    have hl0 : l = [] := List.eq_nil_of_length_eq_zero HLEN.out
    subst hl0
    have ht0 : t = [] := HT.out.unique ⟨by simp, by simp⟩
    subst ht0
    obtain rfl : m = 0 := by have := HS2.out.1; rw [flat_length] at this; simp at this; omega
    go_wp2_with fail
    (with_reducible refine (alive_true _).mono ?_)
    rintro e w3 ⟨rfl, hb3⟩
    go_wp2
    go_ret
    exact ⟨rfl, HB2.out.trans (hb3.mono HB2.out.size)⟩
  · have hn1 : ((n : Int) == 0) = false := by simp; omega
    go_wp2_with fail
    (with_reducible refine (spot_any _ (n : Int) (by omega) (by omega) HAT.out.1 HAT.out.2 _).mono ?_)
    rintro e wq ⟨rfl, rfl⟩
    obtain ⟨k, hk⟩ : ∃ k : Nat, (k : Int) = at_ % n := ⟨(at_ % n).toNat, by have := Int.emod_nonneg at_ (show (n : Int) ≠ 0 by omega); omega⟩
    have hkn : k < n := by have := Int.emod_lt_of_pos at_ (show (0 : Int) < n by omega); omega
    have hke : at_ % (n : Int) = k := hk.symm
    clear hk
    obtain ⟨b, off, cap', he, _, _, hb1, hcs⟩ := (H.out.pairs).2 hn0
    injection he with he1 he2 he3
    subst he1 he3
    have HD : Hid (Rd w2 w.heap.size 2 (.slice (some ⟨b, off + k * 2, none⟩) (n - k) (cap - k)) (n - k) (flat (l.drop k))) := (H.out.below HB2.out).cut (by omega)
    have HTK : Hid (Rd w2 w.heap.size 2 (.slice (some ⟨b, off, none⟩) k cap) k (flat (l.take k))) := (H.out.below HB2.out).upto (by omega)
    have HSZ := Lib.hid HB2.out.size
    have HOK2 : Hid (∀ c ∈ l.drop k ++ l.take k, okC c) := fun c hc => HOK.out c (by
      rw [List.mem_append] at hc
      rcases hc with hc | hc
      · exact List.mem_of_mem_drop hc
      · exact List.mem_of_mem_take hc)
    have hk0 : (0 : Int) ≤ (k : Int) := by omega
    have hk1 : (k : Int) ≤ (n : Int) := by omega
    have hk2 : (n : Int) ≤ (cap : Int) := by omega
    have hk3 : ¬ cap = k := by omega
    have hk4 : (k : Int) ≤ (cap : Int) := by omega
    clear hcs hb1
    go_wp2_with fail
    go_cut [8, 9] (fun s8 s9 wx => ∃ A3 m3 t3, s8 = .slice A3 m3 m3 ∧ s9 = .int .i64 0 ∧ Tid (l.drop k ++ l.take k) t3 ∧ Sl wx 62 2 (.slice A3 m3 m3) m3 (flat t3) ∧ Below w2.heap.size w2 wx)
    case first =>
      go_region_held3 (fun _ => True) (trivial)
        (first
          | (go_at_call 29; refine (cells_any _ w.heap.size (n - k) _ (l.drop k) (by exact HD.out) (by omega)).mono ?_; rintro e w3 ⟨v3, rfl, hs3, hf3, hb3⟩; obtain ⟨A3, cap3, rfl, p1, p2⟩ := hs3.form)
          | (refine step_append_sl _ rfl (.tmp 44) (.tmp 47) 56 rfl 62 (.agg #[.int .i64 0, .int .i64 0]) 2 16 Try.underlying56 Try.info62 rfl (by decide) rfl hs3 rfl (HTK.out.keep fun x hx => hb3.block x (by have := HSZ.out; show x < w2.heap.size; omega)) flat_one (by omega) (by unfold maxLen; omega) ?_; intro v4 w4 hs4 hm4 hd4; rw [show n - k + k = n by omega] at hs4; obtain ⟨A4, cap4, rfl, p3, p4⟩ := hs4.form)
          | (go_at_call 28; refine (tidy_ok _ w4.heap.size n _ (l.drop k ++ l.take k) (by rw [flat_append]; exact hs4.rd) (Nat.le_refl _) (by omega) HOK2.out).mono ?_; rintro e w5 ⟨A5, m5, t5, rfl, ht5, hs5, hf5, hb5⟩))
      all_goals (go_wp2_with fail; go_meet)
      all_goals
        have hb3' : Below w2.heap.size w2 w3 := ⟨hb3.os, hb3.tape, hb3.output, hb3.size, hb3.block⟩
        obtain ⟨q1, q2⟩ := fresh_of (w := w2) hm4 hd4 hb3' hf3
        exact ⟨A5, m5, t5, rfl, rfl, ht5, hs5, q2.trans (hb5.mono q2.size)⟩
    case rest =>
      obtain ⟨A3, m3, t3, rfl, rfl, ht3, hs3, hb3⟩ := hcut
      have ht3' : t3 = t := (tid_rotate ht3).unique HT.out
      subst ht3'
      obtain rfl : m3 = m := by have e1 := hs3.1; have e2 := HS2.out.1; rw [flat_length] at e1 e2; omega
      have HS3 := Lib.hid hs3
      have HB3 := Lib.hid hb3
      have HS23 := Lib.hid (HS2.out.rd.below hb3)
      have hm : m3 ≤ 4096 := by
        have e1 := HS2.out.1
        have e2 := tid_length HT.out
        rw [flat_length] at e1
        have e3 := HLEN.out
        omega
      clear hs3 hb3 ht3 hk0 hk1 hk2 hk3 hk4
      go_wp2_with fail
      (with_reducible refine (cells_any _ w2.heap.size m3 _ t3 HS23.out (by omega)).mono ?_)
      rintro e w4 ⟨v4, rfl, hs4, hf4, hb4⟩
      have HS4 := Lib.hid hs4.rd
      have HB4 := Lib.hid hb4
      clear hs4 hf4 hb4
      go_wp2_with fail
      (with_reducible refine (tidy_ok _ w4.heap.size m3 _ t3 HS4.out (Nat.le_refl _) hm (fun c hc => HOK.out c ((tid_mem HT.out c).1 hc))).mono ?_)
      rintro e w5 ⟨A5, m5, t5, rfl, ht5, hs5, hf5, hb5⟩
      have ht5' : t5 = t3 := tid_tid HT.out ht5
      subst ht5'
      obtain rfl : m5 = m3 := by have e1 := hs5.1; have e2 := HS2.out.1; rw [flat_length] at e1 e2; omega
      have HS5 := Lib.hid hs5
      have HB5 := Lib.hid hb5
      clear hs5 hf5 hb5 ht5
      go_wp2_with fail
      have HRA : Hid (Rd w5 w2.heap.size 2 (.slice A2 m5 m5) m5 (flat t5)) := (HS23.out.below (HB4.out.mono HB3.out.size)).below (HB5.out.mono (Nat.le_trans HB3.out.size HB4.out.size))
      have HRB : Hid (Rd w5 w4.heap.size 2 (.slice A3 m5 m5) m5 (flat t5)) := (HS3.out.rd.below HB4.out).more HB4.out.size |>.below HB5.out
      have HBB : Hid (Below w.heap.size w w5) := HB2.out.trans (((HB3.out.trans (HB4.out.mono HB3.out.size)).trans (HB5.out.mono (Nat.le_trans HB3.out.size HB4.out.size))).mono HB2.out.size)
      have HLT : Hid (t5.length = m5) := (HRA.out.pairs).1
      have HAT' := Lib.hid (HRA.out.pairs).2
      have HS25 : Hid (w2.heap.size ≤ w5.heap.size) := Nat.le_trans HB3.out.size (Nat.le_trans HB4.out.size HB5.out.size)
      have HS45 : Hid (w4.heap.size ≤ w5.heap.size) := HB5.out.size
      have HB05 : Hid (w.heap.size ≤ w5.heap.size) := HBB.out.size
      clear HD HTK HSZ HOK2 HS23 HB3 HB4 HS3 HS4 HB2 HS2 HB5 H HOK HLEN HAT hn1 hkn hke
      go_loopw [12] (fun iv wx => ∃ q d : Nat, iv = .int .i64 ((q : Int) + 1) ∧ wx = w5.drewN d) (fun iv _ => m5 - (intOf iv).toNat)
      case atStart => exact ⟨0, 0, rfl, rfl⟩
      case round =>
        obtain ⟨q, d, rfl, rfl⟩ := hrel
        by_cases hlt : q + 1 < m5
        · obtain ⟨b2, off2, cp, he, _, _, _, hcs⟩ := HAT'.out (by omega)
          injection he with he1 he2 he3
          subst he1 he3
          obtain ⟨c1, c2⟩ := hcs q (by omega)
          obtain ⟨c3, c4⟩ := hcs (q + 1) hlt
          have hpair := tid_pair HT.out (q := q) (by rw [HLT.out]; exact hlt)
          generalize t5[q]! = ca at c1 c2 hpair
          generalize t5[q + 1]! = cb at c3 c4 hpair
          obtain ⟨x1, y1⟩ := ca
          obtain ⟨x2, y2⟩ := cb
          have hq1 : ((q : Int) + 1 < (m5 : Int)) := by omega
          have hq2 : ((q : Int) < (m5 : Int)) := by omega
          clear hcs
          rcases hpair with hp | ⟨hp, hp'⟩
          · have d1 : decide (y2 < y1) = false := by simp only [decide_eq_false_iff_not]; simp only at hp; omega
            have d2 : (y1 == y2) = false := by simp only [beq_eq_false_iff_ne, ne_eq]; simp only at hp; omega
            clear hp
            go_wp2_with fail
            go_quiet (fail)
            go_wp2
            go_roundw
            case rel => exact ⟨q + 1, _, by go_num, rfl⟩
            case measure => simp [intOf]; omega
          · simp only at hp hp'
            subst hp
            have d1 : decide (y1 < y1) = false := by simp
            have d2 : (y1 == y1) = true := by simp
            have d3 : decide (x2 ≤ x1) = false := by simp only [decide_eq_false_iff_not]; omega
            clear hp'
            go_wp2_with fail
            go_quiet (fail)
            go_wp2
            go_roundw
            case rel => exact ⟨q + 1, _, by go_num, rfl⟩
            case measure => simp [intOf]; omega
        · have hq1 : ¬ ((q : Int) + 1 < (m5 : Int)) := by omega
          have HRA2 : Hid (Rd (w5.drewN d) w2.heap.size 2 (.slice A2 m5 m5) m5 (flat t5)) := HRA.out
          have HRB2 : Hid (Rd (w5.drewN d) w4.heap.size 2 (.slice A3 m5 m5) m5 (flat t5)) := HRB.out
          have HRC2 : Hid (Rd (w5.drewN d) w5.heap.size 2 (.slice A5 m5 m5) m5 (flat t5)) := HS5.out.rd
          have HBB2 : Hid (Below w.heap.size w (w5.drewN d)) := ⟨HBB.out.os, HBB.out.tape, HBB.out.output, HBB.out.size, HBB.out.block⟩
          clear HRA HRB HBB HS5
          go_wp2_with fail
          (with_reducible refine (alive_true _).mono ?_)
          rintro e w6 ⟨rfl, hb6⟩
          have HB6 : Hid (Below w5.heap.size (w5.drewN d) w6) := hb6
          clear hb6
          go_wp2_with fail
          (with_reducible refine (same_true w6 _ _ m5 _ _ t5 ((HRA2.out.more HS25.out).below HB6.out) ((HRB2.out.more HS45.out).below HB6.out)).mono ?_)
          rintro e w7 ⟨rfl, d7, rfl⟩
          go_wp2_with fail
          (with_reducible refine (same_true _ _ _ m5 _ _ t5 (Rd.drewN ((HRA2.out.more HS25.out).below HB6.out) d7) (Rd.drewN (HRC2.out.below HB6.out) d7)).mono ?_)
          rintro e w8 ⟨rfl, d8, rfl⟩
          go_wp2
          go_ret
          have hfin : Below w.heap.size w w6 := HBB2.out.trans (HB6.out.mono HB05.out)
          exact ⟨rfl, hfin.os, hfin.tape, hfin.output, hfin.size, hfin.block⟩
end Go.Proofs.Ytfoipadgicjcaaa
