/- arena: Undo. -/
import Derived.Test.YtfoipadgicjcaaaArInv
namespace Go.Proofs.Ytfoipadgicjcaaa
open Go.RowKit

def loseL (S : ArS) (t : Nat) (l : List Int) : ArS := l.foldl (fun S x => loseS S t x.toNat) S
theorem loseS_keeps (S : ArS) (t i : Nat) : (loseS S t i).added = S.added ∧ (loseS S t i).ents.length = S.ents.length ∧ (loseS S t i).room = S.room := by
  unfold loseS
  cases S.ents[i]? with
  | none => exact ⟨rfl, rfl, rfl⟩
  | some e => simp only; split <;> simp
theorem loseL_keeps (t : Nat) : ∀ (l : List Int) (S : ArS), (loseL S t l).added = S.added ∧ (loseL S t l).ents.length = S.ents.length ∧ (loseL S t l).room = S.room
  | [], S => ⟨rfl, rfl, rfl⟩
  | x :: l, S => by
    have h1 := loseS_keeps S t x.toNat
    have h2 := loseL_keeps t l (loseS S t x.toNat)
    exact ⟨h2.1.trans h1.1, h2.2.1.trans h1.2.1, h2.2.2.trans h1.2.2⟩
theorem loseL_inv {t : Nat} (ht : t < 64) : ∀ (l : List Int) (S : ArS), Inv S → Inv (loseL S t l)
  | [], S, h => h
  | x :: l, S, h => loseL_inv ht l _ (h.lose ht x.toNat)
theorem loseL_snoc (S : ArS) (t : Nat) (l : List Int) (x : Int) : loseL S t (l ++ [x]) = loseS (loseL S t l) t x.toNat := by unfold loseL; rw [List.foldl_append]; rfl
theorem loseL_take {S : ArS} {t : Nat} {l : List Int} {i : Nat} {x : Int} (h : l[i]? = some x) : loseL S t (l.take (i + 1)) = loseS (loseL S t (l.take i)) t x.toNat := by
  rw [List.take_add_one, h]; exact loseL_snoc ..
theorem wrap_nat' (i : Nat) (h : i < maxLen) : IntKind.i64.wrap ((i : Int) + 1) = (i : Int) + 1 := by unfold maxLen at h; rw [IntKind.wrap_i64]; omega
def undoS (S : ArS) (t : Nat) : ArS := { loseL S t (S.added t) with added := upd S.added t [] }
theorem undoS_inv {S : ArS} {t : Nat} (ht : t < 64) (h : Inv S) : Inv (undoS S t) := by
  have h1 := loseL_inv ht (S.added t) S h
  have h2 := h1.mark t
  rw [(loseL_keeps t (S.added t) S).1] at h2
  exact h2

set_option maxRecDepth 100000 in
set_option maxHeartbeats 3200000 in
theorem undo_any (w : World) (p : Nat) (R : ArR) (S : ArS) (h : ArM w p R S) (hI : Inv S) (t : Nat) (ht : t < 64) :
    Calls Try.prog 22 #[.pointer (some ⟨p, 0, none⟩), .int .i64 t] w fun e w' => e = .returned (.int .i64 (S.count t - (undoS S t).count t)) ∧ ArM w' p { R with av := upd R.av t nilV } (undoS S t) ∧ Step p R { R with av := upd R.av t nilV } w w' := by
  have c0 := h.cCount ht
  have c1 := h.cAdded ht
  have k4 : (t : Int) < 64 := by omega
  have H := Lib.hid h
  have HI := Lib.hid hI
  obtain ⟨A, cap, hav, hc1, hc2⟩ := (h.added t ht).form
  rw [hav] at c1
  generalize hn : (S.added t).length = n at *
  have HN := Lib.hid hn
  have HAV := Lib.hid hav
  clear h hI hn hav
  go_enter Try.func22, Try.ntmps22
  go_wp2_with fail
  (with_reducible refine (tenant_any w t).mono ?_)
  rintro e wq ⟨rfl, rfl⟩
  rw [decide_eq_true (show 0 ≤ (t : Int) ∧ (t : Int) < 64 by omega)]
  go_wp2_with fail
  clear c0 c1
  go_loopw [28] (fun iv wx => ∃ i : Nat, iv = .int .i64 i ∧ i ≤ n ∧ ArM wx p R (loseL S t ((S.added t).take i)) ∧ Step p R R w wx) (fun iv _ => n - (intOf iv).toNat)
  case atStart => exact ⟨0, rfl, Nat.zero_le _, H.out, Step.refl _ _ _⟩
  case round =>
    obtain ⟨i, rfl, hi, hA, hst⟩ := hrel
    have hIi := loseL_inv ht ((S.added t).take i) S HI.out
    have hcn := hIi.cnt_le ht
    have hkp := loseL_keeps t ((S.added t).take i) S
    have HA := Lib.hid hA
    have HST := Lib.hid hst
    have HKP := Lib.hid hkp
    by_cases hin : i < n
    · obtain ⟨x, hx⟩ : ∃ x, (S.added t)[i]? = some x := ⟨(S.added t)[i]'(by rw [HN.out]; exact hin), List.getElem?_eq_getElem _⟩
      obtain ⟨k, rfl, hk2, hk3⟩ := HI.out.added t ht x (List.mem_of_getElem? hx)
      have hsl := hA.added t ht
      rw [hkp.1, HN.out, HAV.out] at hsl
      obtain ⟨b, off, cap', hA', _, _, hbB, hc, _⟩ := hsl.at (by omega)
      injection hA' with hA' _ hcap; subst hA'; subst hcap
      have c2 : wr.cell? ⟨b, off + i, none⟩ = some (.int .i64 k) := hc i _ (intsV_at hx)
      have hwi := wrap_nat' i (by omega)
      have hlt : (i : Int) < (n : Int) := by omega
      have HX := Lib.hid hx
      have HIN := Lib.hid hin
      clear hc hA hst hkp hIi hx hin hsl hi
      go_wp2_with fail
      (with_reducible refine (lose_any wr p R _ HA.out t ht k (by rw [HKP.out.2.1]; exact hk3) (by omega)).mono ?_)
      rintro e w2 ⟨rfl, hm2, hs2⟩
      have HM2 : Hid (ArM w2 p R (loseL S t ((S.added t).take (i + 1)))) := by
        show ArM w2 p R _
        rw [loseL_take HX.out]; exact hm2
      have HS2 : Hid (Step p R R w w2) := HST.out.trans hs2
      clear hm2 hs2
      go_wp2_with fail
      go_roundw
      case rel => exact ⟨i + 1, by go_num, HIN.out, HM2.out, HS2.out⟩
      case measure => simp [intOf]; have := HIN.out; omega
    · have hge : (n : Int) ≤ (i : Int) := by omega
      have hin' : i = n := by omega
      have hfull : (S.added t).take i = S.added t := by rw [hin', ← HN.out, List.take_length]
      rw [hfull] at HA
      have c1 := HA.out.cCount ht
      have f1 := HA.out.f (132 + t)
      have c2 := HA.out.cAdded ht
      have hcn' := (loseL_inv ht (S.added t) S HI.out).cnt_le ht
      have hc0 := HI.out.cnt_le ht
      have hwr : IntKind.i64.wrap (S.count t - (loseL S t (S.added t)).count t) = S.count t - (loseL S t (S.added t)).count t := by rw [IntKind.wrap_i64]; omega
      have HQ := Lib.hid (HA.out.setAdded ht (l := []) (v := nilV) (Sl.nil _ _ _) (fun b hb => by simp [nilV, sblk] at hb))
      have HR := Lib.hid (HST.out.trans (Step.added HA.out (t := t) (v := nilV) (fun b hb => by simp [nilV, sblk] at hb)))
      have c3 : (wr.setCell ⟨p, 132 + t, none⟩ (.slice none 0 0)).cell? ⟨p, 4 + t, none⟩ = some (.int .i64 ((loseL S t (S.added t)).count t)) := HQ.out.cCount ht
      clear hA hst hkp hIi hi hcn hcn' hc0
      go_wp2_with fail
      go_ret
      refine ⟨rfl, ?_, HR.out⟩
      have := HQ.out
      rw [(loseL_keeps t (S.added t) S).1] at this
      exact this
end Go.Proofs.Ytfoipadgicjcaaa
