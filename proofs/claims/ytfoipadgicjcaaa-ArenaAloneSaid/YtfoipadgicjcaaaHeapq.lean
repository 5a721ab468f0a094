/- container/heap over arena.numbers: what is pushed and popped, as a multiset. -/
import Derived.Test.YtfoipadgicjcaaaMeth
namespace Go.Proofs.Ytfoipadgicjcaaa
open Go.RowKit

abbrev hV (p o : Nat) : Value := .iface 107 (.pointer (some ⟨p, o, none⟩))
theorem perm_swap {l : List Int} {i j : Nat} {x y : Int} (hi : l[i]? = some x) (hj : l[j]? = some y) : List.Perm ((l.set i y).set j x) l := by
  obtain ⟨i1, rfl⟩ := List.getElem?_eq_some_iff.1 hi
  obtain ⟨j1, rfl⟩ := List.getElem?_eq_some_iff.1 hj
  have h := Array.swap_perm (xs := l.toArray) (i := i) (j := j) (by simpa using i1) (by simpa using j1)
  have h2 := Array.perm_iff_toList_perm.1 h
  simpa [Array.swap] using h2

theorem half_lt {i j n : Nat} (h : j = 2 * i + 1 ∨ j = 2 * i + 2) (hjn : j < n) : i < n ∧ i < j := by omega
theorem wrap_nat {i : Nat} (h : i ≤ 4000000) : wrap64 (i : Int) = i := by unfold wrap64; omega
theorem half_ne {i j : Nat} (h : j = 2 * i + 1 ∨ j = 2 * i + 2) : ((i : Int) == (j : Int)) = false := by rw [beq_eq_false_iff_ne]; omega
theorem half_div {i j : Nat} (h : j = 2 * i + 1 ∨ j = 2 * i + 2) : Int.tdiv ((j : Int) - 1) 2 = (i : Int) := by
  rw [Int.tdiv_eq_ediv_of_nonneg (by omega)]; omega
theorem wrap_pred {j : Nat} (h : j ≤ 4000000) : IntKind.i64.wrap ((j : Int) - 1) = (j : Int) - 1 := by rw [IntKind.wrap_i64]; omega

set_option maxRecDepth 100000 in
set_option maxHeartbeats 3200000 in
theorem up_any (w : World) (p o : Nat) (v : Value) (n : Nat) (l : List Int) (hp : w.cell? ⟨p, o, none⟩ = some v) (h : Sl w IT 1 v n (intsV l)) (hne : sblk v ≠ some p) (j : Nat) (hj : j < n) (hn : n ≤ 1000000) :
    Calls Try.prog 64 #[hV p o, .int .i64 j] w fun e w' => ∃ l', e = .returned (.tuple #[]) ∧ List.Perm l' l ∧ Sl w' IT 1 v n (intsV l') ∧ Mod (fun b => sblk v = some b) w w' := by
  have H := Lib.hid h
  have hpl := World.block_lt_of_cell? w _ hp
  have hpl : p < w.heap.size := hpl
  have HP := Lib.hid hp
  have HNE := Lib.hid hne
  clear h hp hne
  unfold hV
  go_enter Try.func64, Try.ntmps64
  go_wp2_with fail
  go_loopw [1] (fun jv wx => ∃ (j : Nat) (l' : List Int), jv = .int .i64 j ∧ j < n ∧ List.Perm l' l ∧ Sl wx IT 1 v n (intsV l') ∧ Mod (fun b => sblk v = some b) w wx) (fun jv _ => (intOf jv).toNat)
  case atStart => exact ⟨j, l, rfl, hj, .refl _, H.out, Mod.refl _ _⟩
  case round =>
    obtain ⟨j, l', rfl, hjn, hpe, hs, hm⟩ := hrel
    have HPE := Lib.hid hpe
    have HS := Lib.hid hs
    have HM := Lib.hid hm
    have c0 : wr.cell? ⟨p, o, none⟩ = some v := (hm.cell (a := ⟨p, o, none⟩) hpl HNE.out).trans HP.out
    have hln := hs.out
    obtain ⟨A, cap, hv, _, _⟩ := hs.form
    subst hv
    clear hpe hs hm
    have hml : ∀ fuel, (method (fuel + 1) 107 (.pointer (some ⟨p, o, none⟩)) "Less").run Try.prog wr = .ok (107, .slice A n cap) wr := fun fuel => meth_less fuel c0
    have hms : ∀ fuel, (method (fuel + 1) 107 (.pointer (some ⟨p, o, none⟩)) "Swap").run Try.prog wr = .ok (108, .slice A n cap) wr := fun fuel => meth_swap fuel c0
    rcases Nat.eq_zero_or_pos j with rfl | hj0
    · have hq : (Int.tdiv (-1) 2) = 0 := by decide
      go_wp2_with fail
      go_end0
      exact ⟨l', rfl, HPE.out, HS.out, HM.out⟩
    · obtain ⟨i, hi⟩ : ∃ i : Nat, j = 2 * i + 1 ∨ j = 2 * i + 2 := ⟨(j - 1) / 2, by omega⟩
      obtain ⟨hi1, hi2⟩ := half_lt hi hjn
      have hq := half_div hi
      have hne := half_ne hi
      have hj4 : j ≤ 4000000 := Nat.le_trans (Nat.le_of_lt hjn) (Nat.le_trans hn (by decide))
      have hwj := wrap_pred hj4
      have hwi := wrap_nat (Nat.le_trans (Nat.le_of_lt hi2) hj4)
      obtain ⟨x, hx⟩ : ∃ x, l'[i]? = some x := ⟨l'[i]'(by rw [hln]; exact hi1), List.getElem?_eq_getElem _⟩
      obtain ⟨y, hy⟩ : ∃ x, l'[j]? = some x := ⟨l'[j]'(by rw [hln]; exact hjn), List.getElem?_eq_getElem _⟩
      have HI1 := Lib.hid hi1
      have HI2 := Lib.hid hi2
      clear hi hj4 hi1 hi2
      go_wp2_with fail
      (with_reducible refine (less_any wr _ n l' HS.out j i y x hy hx).mono ?_)
      rintro e w2 ⟨rfl, hb2, hh2⟩
      have HS2 : Hid (Sl w2 IT 1 (.slice A n cap) n (intsV l')) := HS.out.of_blk fun b _ => by rw [hh2]
      have c2 : w2.cell? ⟨p, o, none⟩ = some (.slice A n cap) := (World.cell?_of_block (a := ⟨p, o, none⟩) (by rw [hh2])).trans c0
      have HM2 : Hid (Mod (fun b => sblk (.slice A n cap) = some b) w w2) := HM.out.trans (Mod.of_below_all hb2) (fun _ _ h => h.elim)
      clear hml hms c0
      have hms : ∀ fuel, (method (fuel + 1) 107 (.pointer (some ⟨p, o, none⟩)) "Swap").run Try.prog w2 = .ok (108, .slice A n cap) w2 := fun fuel => meth_swap fuel c2
      clear hb2 hh2
      by_cases hyx : y < x
      · have hd : decide (y < x) = true := decide_eq_true hyx
        rw [hd]
        clear hd hyx
        go_wp2_with fail
        (with_reducible refine (swap_any w2 _ n l' HS2.out i j x y hx hy).mono ?_)
        rintro e w3 ⟨rfl, hs3, hm3⟩
        have HS3 := Lib.hid hs3
        have HM3 : Hid (Mod (fun b => sblk (.slice A n cap) = some b) w w3) := HM2.out.trans hm3 (fun _ _ h => h)
        have HPE3 : Hid (List.Perm ((l'.set i y).set j x) l) := (perm_swap hx hy).trans HPE.out
        clear hs3 hm3
        go_wp2_with fail
        go_roundw
        case rel => exact ⟨i, _, rfl, HI1.out, HPE3.out, HS3.out, HM3.out⟩
        case measure => simp [intOf]; exact HI2.out
      · have hd : decide (y < x) = false := decide_eq_false hyx
        rw [hd]
        clear hd hyx
        go_wp2_with fail
        go_end0
        exact ⟨l', rfl, HPE.out, HS2.out, HM2.out⟩

theorem left_of {i n : Nat} (h : ¬ 2 * i + 1 < n) : ((n : Int) ≤ 2 * (i : Int) + 1) := by omega
theorem keep_set {l : List Int} {i j k n : Nat} {x y : Int} (hi : i < n) (hj : j < n) (hk : n ≤ k) : ((l.set i y).set j x)[k]? = l[k]? := by
  rw [List.getElem?_set_ne (by omega), List.getElem?_set_ne (by omega)]
theorem wrap_two {i : Nat} (h : i ≤ 1000000) : IntKind.i64.wrap (2 * (i : Int)) = 2 * (i : Int) ∧ IntKind.i64.wrap (2 * (i : Int) + 1) = 2 * (i : Int) + 1 ∧ IntKind.i64.wrap (2 * (i : Int) + 1 + 1) = 2 * (i : Int) + 1 + 1 := by
  refine ⟨?_, ?_, ?_⟩ <;> (rw [IntKind.wrap_i64]; omega)

def DownPost (w : World) (v : Value) (N n : Nat) (l : List Int) (e : Ending) (w' : World) : Prop :=
  ∃ l' b, e = .returned (.bool b) ∧ List.Perm l' l ∧ (∀ k, n ≤ k → l'[k]? = l[k]?) ∧ Sl w' IT 1 v N (intsV l') ∧ Mod (fun b => sblk v = some b) w w'
theorem same_heap {w w2 : World} {p o N : Nat} {v : Value} {l : List Int} {S : Nat → Prop} {w0 : World} (hb : Below w.heap.size w w2) (hh : w2.heap = w.heap) (h : Sl w IT 1 v N (intsV l)) (c : w.cell? ⟨p, o, none⟩ = some v) (hm : Mod S w0 w) :
    Sl w2 IT 1 v N (intsV l) ∧ w2.cell? ⟨p, o, none⟩ = some v ∧ Mod S w0 w2 :=
  ⟨h.of_blk fun b _ => by rw [hh], (World.cell?_of_block (a := ⟨p, o, none⟩) (by rw [hh])).trans c, hm.trans (Mod.of_below_all hb) (fun _ _ h => h.elim)⟩

set_option maxRecDepth 100000 in
set_option maxHeartbeats 3200000 in
theorem down_any (w : World) (p o : Nat) (v : Value) (N n : Nat) (l : List Int) (hp : w.cell? ⟨p, o, none⟩ = some v) (h : Sl w IT 1 v N (intsV l)) (hne : sblk v ≠ some p) (hnN : n < N) (hN : N ≤ 1000000) :
    Calls Try.prog 82 #[hV p o, .int .i64 0, .int .i64 n] w (DownPost w v N n l) := by
  have H := Lib.hid h
  have hpl := World.block_lt_of_cell? w _ hp
  have hpl : p < w.heap.size := hpl
  have HPL := Lib.hid hpl
  have HNN := Lib.hid hnN
  have HNM := Lib.hid hN
  have HP := Lib.hid hp
  have HNE := Lib.hid hne
  clear h hp hne hpl hnN hN
  unfold hV
  go_enter Try.func82, Try.ntmps82
  go_wp2_with fail
  go_loopw [7] (fun iv wx => ∃ (i : Nat) (l' : List Int), iv = .int .i64 i ∧ i < N ∧ List.Perm l' l ∧ (∀ k, n ≤ k → l'[k]? = l[k]?) ∧ Sl wx IT 1 v N (intsV l') ∧ Mod (fun b => sblk v = some b) w wx) (fun iv _ => N - (intOf iv).toNat)
  case atStart => exact ⟨0, l, rfl, by have := HNN.out; omega, .refl _, fun _ _ => rfl, H.out, Mod.refl _ _⟩
  case round =>
    obtain ⟨i, l', rfl, hiN, hpe, hkp, hs, hm⟩ := hrel
    have HIN := Lib.hid hiN
    have HPE := Lib.hid hpe
    have HKP := Lib.hid hkp
    have HS := Lib.hid hs
    have HM := Lib.hid hm
    have c0 : wr.cell? ⟨p, o, none⟩ = some v := (hm.cell (a := ⟨p, o, none⟩) HPL.out HNE.out).trans HP.out
    have HLN := Lib.hid hs.out
    obtain ⟨A, cap, hv, _, _⟩ := hs.form
    subst hv
    obtain ⟨hw1, hw2, hw3⟩ := wrap_two (i := i) (by have := HNM.out; omega)
    obtain ⟨j1, hj1⟩ : ∃ j1 : Nat, j1 = 2 * i + 1 := ⟨_, rfl⟩
    have hjc : (2 * (i : Int) + 1) = (j1 : Int) := by omega
    obtain ⟨j2, hj2⟩ : ∃ j2 : Nat, j2 = j1 + 1 := ⟨_, rfl⟩
    have hjd : ((j1 : Int) + 1) = (j2 : Int) := by omega
    rw [hjc] at hw2 hw3
    rw [hjd] at hw3
    have HJ1 := Lib.hid hj1
    have HJ2 := Lib.hid hj2
    have hn0 : ¬ ((j1 : Int) < 0) := by omega
    clear hpe hkp hs hm hiN hj1 hj2
    by_cases hlt : j1 < n
    · have HLT := Lib.hid hlt
      have hlt' : (j1 : Int) < (n : Int) := by omega
      have hml := fun fuel => meth_less (p := p) (o := o) fuel c0
      obtain ⟨x, hx⟩ : ∃ x, l'[i]? = some x := ⟨l'[i]'(by rw [HLN.out]; exact HIN.out), List.getElem?_eq_getElem _⟩
      obtain ⟨y1, hy1⟩ : ∃ x, l'[j1]? = some x := ⟨l'[j1]'(by have := HLN.out; have := HNN.out; omega), List.getElem?_eq_getElem _⟩
      clear hlt
      by_cases h2 : j2 < n
      · have H2 := Lib.hid h2
        have hlt2 : (j2 : Int) < (n : Int) := by omega
        obtain ⟨y2, hy2⟩ : ∃ x, l'[j2]? = some x := ⟨l'[j2]'(by have := HLN.out; have := HNN.out; omega), List.getElem?_eq_getElem _⟩
        clear h2
        go_wp2_with fail
        (with_reducible refine (less_any _ _ N l' HS.out j2 j1 y2 y1 hy2 hy1).mono ?_)
        rintro e w2 ⟨rfl, hb2, hh2⟩
        obtain ⟨hs2, c2, hm2⟩ := same_heap hb2 hh2 HS.out c0 HM.out
        have HS2 := Lib.hid hs2
        have HM2 := Lib.hid hm2
        clear hb2 hh2 hs2 hm2 hml
        have hml := fun fuel => meth_less (p := p) (o := o) fuel c2
        by_cases h21 : y2 < y1
        · have hd : decide (y2 < y1) = true := decide_eq_true h21
          rw [hd]
          clear hd h21
          go_wp2_with fail
          (with_reducible refine (less_any _ _ N l' HS2.out j2 i y2 x hy2 hx).mono ?_)
          rintro e w4 ⟨rfl, hb4, hh4⟩
          obtain ⟨hs4, c4, hm4⟩ := same_heap hb4 hh4 HS2.out c2 HM2.out
          have HS4 := Lib.hid hs4
          have HM4 := Lib.hid hm4
          clear hb4 hh4 hs4 hm4
          have hms := fun fuel => meth_swap (p := p) (o := o) fuel c4
          by_cases hyx : y2 < x
          · have hd : decide (y2 < x) = true := decide_eq_true hyx
            rw [hd]
            clear hd hyx
            go_wp2_with fail
            (with_reducible refine (swap_any w4 _ N l' HS4.out i j2 x y2 hx hy2).mono ?_)
            rintro e w5 ⟨rfl, hs5, hm5⟩
            have HS5 := Lib.hid hs5
            have HM5 := Lib.hid (HM4.out.trans hm5 (fun _ _ h => h))
            have HPE5 : Hid (List.Perm ((l'.set i y2).set j2 x) l) := (perm_swap hx hy2).trans HPE.out
            clear hs5 hm5 hms c4
            have hin : i < n := by have := H2.out; have := HJ1.out; have := HJ2.out; omega
            have HKP5 : Hid (∀ k, n ≤ k → ((l'.set i y2).set j2 x)[k]? = l[k]?) := fun k hk => (keep_set hin H2.out hk).trans (HKP.out k hk)
            have HJN : Hid (j2 < N) := Nat.lt_trans H2.out HNN.out
            have HIJ : Hid (i < j2) := by have := HJ1.out; have := HJ2.out; show i < j2; omega
            have HINN := Lib.hid hin
            clear hin
            go_wp2_with fail
            go_roundw
            case rel => exact ⟨j2, _, rfl, HJN.out, HPE5.out, HKP5.out, HS5.out, HM5.out⟩
            case measure => simp [intOf]; have := HIJ.out; have := HIN.out; omega
          · have hd : decide (y2 < x) = false := decide_eq_false hyx
            rw [hd]
            clear hd hyx
            go_wp2_with fail
            go_ret
            exact ⟨l', _, rfl, HPE.out, HKP.out, HS4.out, HM4.out⟩
        · have hd : decide (y2 < y1) = false := decide_eq_false h21
          rw [hd]
          clear hd h21
          go_wp2_with fail
          (with_reducible refine (less_any _ _ N l' HS2.out j1 i y1 x hy1 hx).mono ?_)
          rintro e w4 ⟨rfl, hb4, hh4⟩
          obtain ⟨hs4, c4, hm4⟩ := same_heap hb4 hh4 HS2.out c2 HM2.out
          have HS4 := Lib.hid hs4
          have HM4 := Lib.hid hm4
          clear hb4 hh4 hs4 hm4
          have hms := fun fuel => meth_swap (p := p) (o := o) fuel c4
          by_cases hyx : y1 < x
          · have hd : decide (y1 < x) = true := decide_eq_true hyx
            rw [hd]
            clear hd hyx
            go_wp2_with fail
            (with_reducible refine (swap_any w4 _ N l' HS4.out i j1 x y1 hx hy1).mono ?_)
            rintro e w5 ⟨rfl, hs5, hm5⟩
            have HS5 := Lib.hid hs5
            have HM5 := Lib.hid (HM4.out.trans hm5 (fun _ _ h => h))
            have HPE5 : Hid (List.Perm ((l'.set i y1).set j1 x) l) := (perm_swap hx hy1).trans HPE.out
            clear hs5 hm5 hms c4
            have hin : i < n := by have := HLT.out; have := HJ1.out; have := HJ2.out; omega
            have HKP5 : Hid (∀ k, n ≤ k → ((l'.set i y1).set j1 x)[k]? = l[k]?) := fun k hk => (keep_set hin HLT.out hk).trans (HKP.out k hk)
            have HJN : Hid (j1 < N) := Nat.lt_trans HLT.out HNN.out
            have HIJ : Hid (i < j1) := by have := HJ1.out; have := HJ2.out; show i < j1; omega
            have HINN := Lib.hid hin
            clear hin
            go_wp2_with fail
            go_roundw
            case rel => exact ⟨j1, _, rfl, HJN.out, HPE5.out, HKP5.out, HS5.out, HM5.out⟩
            case measure => simp [intOf]; have := HIJ.out; have := HIN.out; omega
          · have hd : decide (y1 < x) = false := decide_eq_false hyx
            rw [hd]
            clear hd hyx
            go_wp2_with fail
            go_ret
            exact ⟨l', _, rfl, HPE.out, HKP.out, HS4.out, HM4.out⟩
      · have hlt2 : (n : Int) ≤ (j2 : Int) := by omega
        clear h2
        go_wp2_with fail
        (with_reducible refine (less_any _ _ N l' HS.out j1 i y1 x hy1 hx).mono ?_)
        rintro e w4 ⟨rfl, hb4, hh4⟩
        obtain ⟨hs4, c4, hm4⟩ := same_heap hb4 hh4 HS.out c0 HM.out
        have HS4 := Lib.hid hs4
        have HM4 := Lib.hid hm4
        clear hb4 hh4 hs4 hm4
        have hms := fun fuel => meth_swap (p := p) (o := o) fuel c4
        by_cases hyx : y1 < x
        · have hd : decide (y1 < x) = true := decide_eq_true hyx
          rw [hd]
          clear hd hyx
          go_wp2_with fail
          (with_reducible refine (swap_any w4 _ N l' HS4.out i j1 x y1 hx hy1).mono ?_)
          rintro e w5 ⟨rfl, hs5, hm5⟩
          have HS5 := Lib.hid hs5
          have HM5 := Lib.hid (HM4.out.trans hm5 (fun _ _ h => h))
          have HPE5 : Hid (List.Perm ((l'.set i y1).set j1 x) l) := (perm_swap hx hy1).trans HPE.out
          clear hs5 hm5 hms c4
          have hin : i < n := by have := HLT.out; have := HJ1.out; have := HJ2.out; omega
          have HKP5 : Hid (∀ k, n ≤ k → ((l'.set i y1).set j1 x)[k]? = l[k]?) := fun k hk => (keep_set hin HLT.out hk).trans (HKP.out k hk)
          have HJN : Hid (j1 < N) := Nat.lt_trans HLT.out HNN.out
          have HIJ : Hid (i < j1) := by have := HJ1.out; have := HJ2.out; show i < j1; omega
          have HINN := Lib.hid hin
          clear hin
          go_wp2_with fail
          go_roundw
          case rel => exact ⟨j1, _, rfl, HJN.out, HPE5.out, HKP5.out, HS5.out, HM5.out⟩
          case measure => simp [intOf]; have := HIJ.out; have := HIN.out; omega
        · have hd : decide (y1 < x) = false := decide_eq_false hyx
          rw [hd]
          clear hd hyx
          go_wp2_with fail
          go_ret
          exact ⟨l', _, rfl, HPE.out, HKP.out, HS4.out, HM4.out⟩
    · have hge : (n : Int) ≤ (j1 : Int) := by omega
      clear hlt
      go_wp2_with fail
      go_ret
      exact ⟨l', _, rfl, HPE.out, HKP.out, HS.out, HM.out⟩
end Go.Proofs.Ytfoipadgicjcaaa
