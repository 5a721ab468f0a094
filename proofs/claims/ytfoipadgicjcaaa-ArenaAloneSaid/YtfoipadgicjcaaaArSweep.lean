/- arena: Sweep. -/
import Derived.Test.YtfoipadgicjcaaaArEnt
namespace Go.Proofs.Ytfoipadgicjcaaa
open Go.RowKit

def SweepPost (w : World) (p : Nat) (R : ArR) (S : ArS) (e : Ending) (w' : World) : Prop :=
  ∃ (n : Nat) (S' : ArS) (R' : ArR), e = .returned (.int .i64 n) ∧ SweepR S S' n ∧ ArM w' p R' S' ∧ Step p R R' w w'

set_option maxRecDepth 100000 in
set_option maxHeartbeats 3200000 in
theorem sweep_any (w : World) (p : Nat) (R : ArR) (S : ArS) (h : ArM w p R S) (hI : Inv S) (hl : S.live = S.size) :
    Calls Try.prog 26 #[.pointer (some ⟨p, 0, none⟩)] w (SweepPost w p R S) := by
  have H := Lib.hid h
  have HI := Lib.hid hI
  have HL := Lib.hid hl
  clear h hI hl
  go_enter Try.func26, Try.ntmps26
  go_wp2_with fail
  go_loopw [3, 4] (fun v3 v4 wx => ∃ (i n : Nat) (Si : ArS) (Ri : ArR), v3 = .int .i64 n ∧ v4 = .int .i64 i ∧ i ≤ S.ents.length ∧ SwN S i Si n ∧ ArM wx p Ri Si ∧ Step p R Ri w wx) (fun _ v4 _ => S.ents.length - (intOf v4).toNat)
  case atStart => exact ⟨2, 0, S, R, rfl, rfl, HI.out.len, .start, H.out, Step.refl _ _ _⟩
  case round =>
    obtain ⟨i, n, Si, Ri, rfl, rfl, hi, hsw, hA, hst⟩ := hrel
    have hf := hsw.facts HI.out
    have hlen := hf.len
    have HF := Lib.hid hf
    have HSW := Lib.hid hsw
    have HA := Lib.hid hA
    have HST := Lib.hid hst
    obtain ⟨b, off, cap, hlv, hc1, hc2, hc, hfr⟩ := hA.ents (by have := hf.inv.len; omega)
    have c0 := hA.cList
    rw [hlv, hlen] at c0
    have HLV := Lib.hid hlv
    have HLEN := Lib.hid hlen
    by_cases hin : i < S.ents.length
    · obtain ⟨e, he⟩ : ∃ e, Si.ents[i]? = some e := ⟨Si.ents[i]'(by rw [hlen]; exact hin), List.getElem?_eq_getElem _⟩
      have hkk := hf.inv.keys e (List.mem_of_getElem? he)
      have e0 : wr.cell? ⟨b, off + i * 8, none⟩ = some (.int .i64 e.key.kind) := hc i e 0 _ he rfl
      have e1 : wr.cell? ⟨b, off + i * 8 + 1, none⟩ = some (.int .i64 e.key.a0) := hc i e 1 _ he rfl
      have e2 : wr.cell? ⟨b, off + i * 8 + 2, none⟩ = some (.int .i64 e.key.a1) := hc i e 2 _ he rfl
      have e3 : wr.cell? ⟨b, off + i * 8 + 3, none⟩ = some (.int .i64 e.key.a2) := hc i e 3 _ he rfl
      have e4 : wr.cell? ⟨b, off + i * 8 + 4, none⟩ = some (.int .i64 e.key.a3) := hc i e 4 _ he rfl
      have e5 : wr.cell? ⟨b, off + i * 8 + 5, none⟩ = some (.int .i64 e.level) := hc i e 5 _ he rfl
      have e6 : wr.cell? ⟨b, off + i * 8 + 6, none⟩ = some (.int .i64 e.value) := hc i e 6 _ he rfl
      have e7 : wr.cell? ⟨b, off + i * 8 + 7, none⟩ = some (.int .u64 (e.mask : Int)) := hc i e 7 _ he rfl
      have c2 := hA.cIdx
      have hwi := wrap_nat' i (by unfold maxLen at *; omega)
      have hlt : (i : Int) < (S.ents.length : Int) := by omega
      have HE := Lib.hid he
      have HIN := Lib.hid hin
      have HKK := Lib.hid hkk
      clear hc hfr hA hf hsw hst hlv hlen he hin hkk hi hc1
      go_wp2_with fail
      generalize hw2 : World.alloc _ _ = w2
      have HA2 : Hid (ArM w2 p Ri Si) := by subst hw2; exact HA.out.alloc _
      have HS2 : Hid (Step p R Ri w w2) := by subst hw2; exact HST.out.alloc _
      have HB2 : Hid (Blk w2 wr.heap.size EN #[.int .i64 e.key.kind, .int .i64 e.key.a0, .int .i64 e.key.a1, .int .i64 e.key.a2, .int .i64 e.key.a3, .int .i64 e.level, .int .i64 e.value, .int .u64 (e.mask : Int)]) := by subst hw2; exact Blk.new wr _ _
      have b0 := HB2.out.cellS (i := 0) rfl
      have b1 := HB2.out.cellS (i := 1) rfl
      have b2 := HB2.out.cellS (i := 2) rfl
      have b3 := HB2.out.cellS (i := 3) rfl
      have b4 := HB2.out.cellS (i := 4) rfl
      have b7 := HB2.out.cellS (i := 7) rfl
      have c2 := HA2.out.cIdx
      obtain ⟨v, hlk, hlv2⟩ := HA2.out.drew.idx.look HKK.out.1
      have HLK := Lib.hid hlv2
      unfold KeyA.val at hlk
      clear hw2 hlv2 e0 e1 e2 e3 e4 e5 e6 e7 c0
      go_region
      clear hlk
      generalize hw3 : World.drew _ = w3
      have HA3 : Hid (ArM w3 p Ri Si) := by subst hw3; exact HA2.out.drew
      have HS3 : Hid (Step p R Ri w w3) := by subst hw3; exact HS2.out.drew
      have HB3 : Hid (Blk w3 wr.heap.size EN #[.int .i64 e.key.kind, .int .i64 e.key.a0, .int .i64 e.key.a1, .int .i64 e.key.a2, .int .i64 e.key.a3, .int .i64 e.level, .int .i64 e.value, .int .u64 (e.mask : Int)]) := by subst hw3; exact HB2.out
      clear b0 b1 b2 b3 b4 b7 c2 hw3
      have b0 := HB3.out.cellS (i := 0) rfl
      have b1 := HB3.out.cellS (i := 1) rfl
      have b2 := HB3.out.cellS (i := 2) rfl
      have b3 := HB3.out.cellS (i := 3) rfl
      have b4 := HB3.out.cellS (i := 4) rfl
      have b7 := HB3.out.cellS (i := 7) rfl
      have c2 := HA3.out.cIdx
      generalize hix : Si.idx e.key = o at *
      by_cases hm : e.mask = 0
      · rw [hm] at b7
        cases o with
        | none =>
          go_wp2_with fail
          go_roundw
          case rel => exact ⟨i + 1, n, Si, Ri, rfl, by go_num, HIN.out, .skip HSW.out HE.out (fun h => by rw [hix] at h; cases h.2), HA3.out, HS3.out⟩
          case measure => simp [intOf]; have := HIN.out; omega
        | some x =>
          have hvx : v = x := HLK.out x rfl
          subst hvx
          by_cases hvi : v = (i : Int)
          · subst hvi
            go_wp2_with fail
            obtain ⟨w4, hdel, hk4, hm4⟩ := HA3.out.drew.idx.drop HKK.out.1 hix 0
            obtain ⟨k1, k2⟩ := HA3.out.drew.reidx hk4 hm4
            have HA4 := Lib.hid k1
            have HS4 := Lib.hid (HS3.out.drew.trans k2)
            unfold KeyA.val at hdel
            clear hk4 hm4 k1 k2
            go_region
            clear hdel
            obtain ⟨⟨d0, d1, d2, d3, d4, d5, d6, d7⟩, f0, f1, f2, f3, f4, f5, f6, f7⟩ := HA4.out.cells8' HLV.out HE.out
            have g0 := HA4.out.cList
            rw [HLV.out, HLEN.out] at g0
            obtain ⟨k1, k2⟩ := HA4.out.setEnt HLV.out HE.out zero_ok.2.2.2
            have HA5 := Lib.hid k1
            have HS5 := Lib.hid (HS4.out.trans k2)
            clear k1 k2 b0 b1 b2 b3 b4 b7 c2
            go_wp2_with fail
            change Calls _ _ #[hV p 3, iface i] (wrote8 w4 b (off + i * 8) zeroE) _
            generalize wrote8 w4 b (off + i * 8) zeroE = w5 at HA5 HS5 ⊢
            clear d0 d1 d2 d3 d4 d5 d6 d7 f0 f1 f2 f3 f4 f5 f6 f7 g0
            have hfl : Si.free.length < 1000000 := by have := HF.out.inv.part; have := HF.out.inv.lenN; omega
            (with_reducible refine (hpush_any w5 p 3 AR Si.free.length _ _ _ HA5.out.fr i hfl).mono ?_)
            rintro e9 w6 ⟨v', l', rfl, hpe, hf6, hn6, hm6⟩
            obtain ⟨k1, k2⟩ := HA5.out.of_fr hf6 hn6 hm6
            have HA6 := Lib.hid k1
            have HS6 := Lib.hid (HS5.out.trans k2)
            have HPE := Lib.hid hpe
            have hnl : IntKind.i64.wrap ((n : Int) + 1) = (n : Int) + 1 := wrap_nat' n (by have := HF.out.size; have := HI.out.part; have := HI.out.lenN; unfold maxLen; omega)
            clear hpe hf6 hn6 hm6 k1 k2 hfl
            go_wp2_with fail
            go_roundw
            case rel => exact ⟨i + 1, n + 1, killS Si i e.key l', _, by go_num, by go_num, HIN.out, .kill HSW.out HE.out hm hix HPE.out, HA6.out, HS6.out⟩
            case measure => simp [intOf]; have := HIN.out; omega
          · have hvb : (v == (i : Int)) = false := by rw [beq_eq_false_iff_ne]; exact hvi
            go_wp2_with fail
            go_roundw
            case rel => exact ⟨i + 1, n, Si, Ri, rfl, by go_num, HIN.out, .skip HSW.out HE.out (fun h => by rw [hix] at h; exact hvi (Option.some.inj h.2)), HA3.out, HS3.out⟩
            case measure => simp [intOf]; have := HIN.out; omega
      · have hm1 : ((e.mask : Int) == 0) = false := by rw [beq_eq_false_iff_ne]; omega
        have hm2 : ¬ ((e.mask : Int) = 0) := by omega
        have HM := Lib.hid hm
        clear hm
        go_wp2_with fail
        go_roundw
        case rel => exact ⟨i + 1, n, Si, Ri, rfl, by go_num, HIN.out, .skip HSW.out HE.out (fun h => HM.out h.1), HA3.out, HS3.out⟩
        case measure => simp [intOf]; have := HIN.out; omega
    · have hge : (S.ents.length : Int) ≤ (i : Int) := by omega
      have hin' : i = S.ents.length := by omega
      subst hin'
      have c1 := HA.out.cLive
      have f1 := HA.out.f 196
      rw [HF.out.live] at c1
      have hnb : n ≤ S.size := by have := HF.out.size; omega
      have hsz : S.size ≤ 200002 := by have := HI.out.part; have := HI.out.lenN; omega
      have hl := HL.out
      have hwl : IntKind.i64.wrap (S.live - n) = S.live - n := by rw [IntKind.wrap_i64]; omega
      have HQ := Lib.hid (HA.out.put (arCells_live Ri Si (S.live - n)) rfl rfl rfl rfl rfl)
      have HR := Lib.hid (HST.out.trans (Step.set HA.out (q := ⟨p, 196, none⟩) (.inl rfl) (.int .i64 (S.live - n))))
      clear hl hnb hsz hA hf hst hsw hlen hc hfr hlv
      go_wp2_with fail
      go_ret
      exact ⟨n, _, _, rfl, ⟨Si, HSW.out, rfl⟩, HQ.out, HR.out⟩
end Go.Proofs.Ytfoipadgicjcaaa
