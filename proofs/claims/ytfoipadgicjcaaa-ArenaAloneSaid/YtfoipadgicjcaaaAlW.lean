/- ArenaAlone: the walk. -/
import Derived.Test.YtfoipadgicjcaaaPlayS
import Derived.Deep.QuietTactic
import Derived.BigQuiet
namespace Go.Proofs.Ytfoipadgicjcaaa
open Go.RowKit

/-- What played gives: what one tenant alone is told. -/
def PlayPost' (W : World) (f : Nat → DeedD) (me n : Nat) (e : Ending) (w' : World) : Prop :=
  ∃ tv : Value, e = .returned (.tuple #[tv, .bool true]) ∧ Sl w' IT 1 tv (aState f me n).2.length (intsV (aState f me n).2) ∧ (∀ b, sblk tv = some b → W.heap.size ≤ b) ∧ Below W.heap.size W w'

theorem below_drewN {B : Nat} {w w1 : World} (h : Below B w w1) (n : Nat) : Below B w (w1.drewN n) := ⟨h.os, h.tape, h.output, h.size, h.block⟩
theorem Deeds.keep {W W' : World} {B : Nat} {v : Value} {len : Nat} {f : Nat → DeedD} (h : Deeds W B v len f) (hb : Below B W W') : Deeds W' B v len f := by
  obtain ⟨A, cap, rfl, hl, hD⟩ := h
  refine ⟨A, cap, rfl, hl, fun hn => ?_⟩
  obtain ⟨b, off, e, hlt, hc⟩ := hD hn
  refine ⟨b, off, e, hlt, fun i hi => ?_⟩
  have : ∀ j, W'.cell? ⟨b, j, none⟩ = W.cell? ⟨b, j, none⟩ := fun j => hb.cell hlt
  simp only [this]
  exact hc i hi

set_option maxRecDepth 100000 in
set_option maxHeartbeats 3200000 in
theorem alone_any (hplay : ∀ (W : World) (B : Nat) (_ : B ≤ W.heap.size) (v : Value) (len : Nat) (f : Nat → DeedD) (_ : Deeds W B v len f) (_ : ∀ i, i < len → (f i).ok) (me : Nat) (_ : me < 4) (all : Bool),
      Calls Try.prog 27 #[v, .int .i64 me, .bool all] W fun e w' => PlayPost' W f me (min len 150) e w')
    (W : World) (v : Value) (len : Nat) (f : Nat → DeedD) (hd : Deeds W W.heap.size v len f) (hok : ∀ i, i < len → (f i).ok) (m : Int) (hm : i64r m) :
    Calls Try.prog 5 #[v, .int .i64 m] W fun e w' => e = .returned (.bool true) ∧ Below W.heap.size W w' := by
  have HD := Lib.hid hd
  have HOK := Lib.hid hok
  have HP := Lib.hid hplay
  obtain ⟨hm1, hm2⟩ := hm
  have HM1 := Lib.hid hm1
  have HM2 := Lib.hid hm2
  clear hd hok hplay hm1 hm2
  go_enter Try.func5, Try.ntmps5
  go_wp2_with fail
  (with_reducible refine (spot_any m 4 (by decide) (by decide) HM1.out HM2.out W).mono ?_)
  rintro e wq ⟨rfl, rfl⟩
  obtain ⟨me, hme, hmn⟩ : ∃ t : Nat, t < 4 ∧ m % 4 = t := ⟨(m % 4).toNat, by omega, by omega⟩
  rw [hmn]
  have HME := Lib.hid hme
  clear hmn hme
  go_wp2_with fail
  (with_reducible refine (HP.out W W.heap.size (Nat.le_refl _) v len f HD.out HOK.out me HME.out true).mono ?_)
  rintro e w1 ⟨tv, rfl, hs1, hf1, hb1⟩
  have HS1 := Lib.hid hs1
  have HF1 := Lib.hid hf1
  have HB1 := Lib.hid hb1
  have HD1 := Lib.hid (HD.out.keep hb1)
  clear hs1 hf1 hb1
  go_wp2_with fail
  (with_reducible refine (HP.out w1 W.heap.size HB1.out.size v len f HD1.out HOK.out me HME.out false).mono ?_)
  rintro e w2 ⟨tv2, rfl, hs2, hf2, hb2⟩
  have HS2 := Lib.hid hs2
  have HB2 : Hid (Below W.heap.size W w2) := HB1.out.trans (hb2.mono HB1.out.size)
  have HS12 : Hid (Sl w2 IT 1 tv (aState f me (min len 150)).2.length (intsV (aState f me (min len 150)).2)) := HS1.out.mod (Mod.of_below hb2) fun b hb => by have := (HS1.out.lt hb).1; omega
  clear hs2 hf2 hb2
  generalize (aState f me (min len 150)).2 = L at *
  obtain ⟨A1, cap1, hv1, q1, q2⟩ := HS12.out.form
  obtain ⟨A2, cap2, hv2, _, _⟩ := HS2.out.form
  subst hv1
  subst hv2
  generalize hn : L.length = n at *
  have HN := Lib.hid hn
  have hn63 : n ≤ maxLen := Nat.le_trans q1 q2
  have HN63 := Lib.hid hn63
  clear hn q1 q2 hn63
  go_wp2_with fail
  go_loopw [9] (fun iv wx => ∃ i : Nat, iv = .int .i64 i ∧ i ≤ n ∧ Sl wx IT 1 (.slice A1 n cap1) n (intsV L) ∧ Sl wx IT 1 (.slice A2 n cap2) n (intsV L) ∧ Below W.heap.size W wx) (fun iv _ => n - (intOf iv).toNat)
  case atStart => exact ⟨0, rfl, Nat.zero_le _, HS12.out, HS2.out, HB2.out⟩
  case round =>
    obtain ⟨i, rfl, hi, ha, hb, hw⟩ := hrel
    have HX := Lib.hid ha
    have HY := Lib.hid hb
    have HW := Lib.hid hw
    clear ha hb hw
    by_cases hin : i < n
    · obtain ⟨b1, off1, c1, hA1, _, _, _, hc1, _⟩ := HX.out.at (by omega)
      obtain ⟨b2, off2, c2, hA2, _, _, _, hc2, _⟩ := HY.out.at (by omega)
      cases hA1
      cases hA2
      obtain ⟨y, hy⟩ : ∃ y, L[i]? = some y := ⟨_, List.getElem?_eq_getElem (by rw [HN.out]; exact hin)⟩
      have e1 : wr.cell? ⟨b1, off1 + i, none⟩ = some (.int .i64 y) := hc1 i _ (by simp [intsV, hy])
      have e2 : wr.cell? ⟨b2, off2 + i, none⟩ = some (.int .i64 y) := hc2 i _ (by simp [intsV, hy])
      have k6 : (i : Int) < (n : Int) := Int.ofNat_lt.2 hin
      have k7 : ¬ ((i : Int) < 0) := Int.not_lt.2 (Int.natCast_nonneg i)
      have HIN := Lib.hid hin
      have HWK : Hid (IntKind.i64.wrap ((i : Int) + 1) = (i : Int) + 1) := by show _ = _; have h63 := HN63.out; unfold maxLen at h63; rw [IntKind.wrap_i64]; omega
      clear hc1 hc2 hy hin hi
      go_wp2_with fail
      go_quiet (fail)
      clear e1 e2
      have hwk := HWK.out
      go_wp2_with fail
      clear hwk
      go_roundw
      case rel => exact ⟨i + 1, by go_num, HIN.out, HX.out.drewN nq, HY.out.drewN nq, below_drewN HW.out nq⟩
      case measure => simp [intOf]; have := HIN.out; omega
    · obtain rfl : i = n := by omega
      clear hin hi
      go_wp2_with fail
      go_returns
      exact ⟨rfl, HW.out⟩
end Go.Proofs.Ytfoipadgicjcaaa
