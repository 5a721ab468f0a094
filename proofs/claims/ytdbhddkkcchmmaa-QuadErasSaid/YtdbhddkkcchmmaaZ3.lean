/- arena: give. · arena: Join, Note, Recall. · arena: Kids (at seats that have it). · arena: Clean. · arena: small laws of losing, sweeping, giving. -/
import Derived.Carry
import Derived.Test.YtdbhddkkcchmmaaZ2

namespace Go.Proofs.Ytdbhddkkcchmmaa
open Go.RowKit

def GivePost (w : World) (p : Nat) (R : ArR) (S : ArS) (t : Nat) (k : KeyA) (lv va : Int) (e : Ending) (w' : World) : Prop :=
  ∃ (r x : Int) (S' : ArS) (R' : ArR), e = .returned (.tuple #[.int .i64 r, .int .i64 x]) ∧ GiveR S t k lv va r x S' ∧ ArM w' p R' S' ∧ Step p R R' w w'

set_option maxRecDepth 100000 in
set_option maxHeartbeats 3200000 in
theorem give_any (w : World) (p : Nat) (R : ArR) (S : ArS) (h : ArM w p R S) (hI : Inv S) (hl : S.live = S.size) (t : Nat) (ht : t < 64) (hal : (S.added t).length ≤ 1000000) (k : KeyA) (hk : k.ok) (lv va : Int) (hlev : 0 ≤ lv ∧ lv ≤ 44) :
    Calls Try.prog 52 #[.pointer (some ⟨p, 0, none⟩), .int .i64 t, .agg #[.int .i64 k.kind, .int .i64 k.a0, .int .i64 k.a1, .int .i64 k.a2, .int .i64 k.a3], .int .i64 lv, .int .i64 va] w (GivePost w p R S t k lv va) := by
  have H := Lib.hid h
  have HI := Lib.hid hI
  have HL := Lib.hid hl
  have HLN := Lib.hid hal
  have HNO : Hid (¬ Own p R w.heap.size) := fun hb => Nat.lt_irrefl _ (h.own_lt hb)
  have HLEV := Lib.hid hlev
  have k4 : (t : Int) < 64 := by omega
  clear h hI hl hal hlev
  go_enter Try.func52, Try.ntmps52
  go_wp2_with fail
  generalize hw2 : World.alloc _ _ = w2
  have HA2 : Hid (ArM w2 p R S) := by subst hw2; exact H.out.alloc _
  have HS2 : Hid (Step p R R w w2) := by subst hw2; exact (Step.refl p R w).alloc _
  have HB2 : Hid (Blk w2 w.heap.size 87 #[.int .i64 k.kind, .int .i64 k.a0, .int .i64 k.a1, .int .i64 k.a2, .int .i64 k.a3]) := by subst hw2; exact Blk.new w _ _
  have b0 := HB2.out.cellS (i := 0) rfl
  have b1 := HB2.out.cellS (i := 1) rfl
  have b2 := HB2.out.cellS (i := 2) rfl
  have b3 := HB2.out.cellS (i := 3) rfl
  have b4 := HB2.out.cellS (i := 4) rfl
  have c2 := HA2.out.cIdx
  obtain ⟨v, hlk, hlv⟩ := HA2.out.drew.idx.look hk
  have HV := Lib.hid hlv
  unfold KeyA.val at hlk
  clear hw2 hlv
  go_region
  clear hlk b0 b1 b2 b3 b4 c2
  generalize hw3 : World.drew _ = w3
  have HA3 : Hid (ArM w3 p R S) := by subst hw3; exact HA2.out.drew
  have HS3 : Hid (Step p R R w2 w3) := by subst hw3; exact (Step.refl p R w2).drew
  clear hw3
  have c4 := HA3.out.cCount ht
  have c5 := HA3.out.cQuota ht
  cases hix : S.idx k with
  | some x =>
    have hvx : v = x := HV.out x hix
    subst hvx
    obtain ⟨i, e, rfl, h2, he, hek⟩ := HI.out.idx _ _ hix
    obtain ⟨b, off, cap, hlv, hc1, hc2, hc, hfr⟩ := HA3.out.ents (by have := HI.out.len; omega)
    have c0 := HA3.out.cList
    rw [hlv] at c0
    have c1 : w3.cell? ⟨b, off + i * 8 + 7, none⟩ = some (.int .u64 (e.mask : Int)) := hc i e 7 _ he rfl
    have f1 := hfr (off + i * 8 + 7)
    have hil : (i : Int) < (S.ents.length : Int) := by have := (List.getElem?_eq_some_iff.1 he).1; omega
    have hbit := bit_test e.mask t (HA3.out.masks e (List.mem_of_getElem? he))
    have HMS := Lib.hid (HA3.out.masks e (List.mem_of_getElem? he))
    have HLV := Lib.hid hlv
    have HE := Lib.hid he
    have HEK := Lib.hid hek
    have HIX := Lib.hid hix
    clear hc hfr hlv he hek h2 hc1
    by_cases hb : e.mask.testBit t = true
    · rw [hb] at hbit
      go_wp2_with fail
      go_returns
      exact ⟨i, 0, S, R, rfl, .has i e HIX.out HE.out hb, HA3.out, HS2.out.trans HS3.out⟩
    · rw [Bool.not_eq_true] at hb
      rw [hb] at hbit
      by_cases hq : S.quota t ≤ S.count t
      · go_wp2_with fail
        go_region
        go_wp2_with fail
        go_ret2
        exact ⟨0, 9, S, R, rfl, .much (fun j e' hj he' => by
          have := HIX.out.symm.trans hj
          have := Option.some.inj this
          have : j = i := by omega
          subst this
          rw [HE.out] at he'; cases he'; exact hb) hq, HA3.out.drew, (HS2.out.trans HS3.out).drew⟩
      · have hq' : S.count t < S.quota t := by omega
        clear hq
        go_wp2_with fail
        go_region
        go_wp2_with fail
        rw [set_bits HMS.out ht]
        have HA4 := Lib.hid ((HA3.out.mask (e := e) HLV.out HE.out (setB_lt HMS.out ht)).drew)
        have HS4 := Lib.hid (HS3.out.trans ((Step.set HA3.out (q := ⟨b, off + i * 8 + 7, none⟩) (Own.list HLV.out) (.int .u64 (setB e.mask t : Nat))).drew))
        generalize World.drew _ = w4 at HA4 HS4 ⊢
        clear c0 c1 f1 c4 c5
        have c4 : w4.cell? ⟨p, 4 + t, none⟩ = some (.int .i64 (S.count t)) := HA4.out.cCount ht
        have f4 := HA4.out.f (4 + t)
        have hwc : IntKind.i64.wrap (S.count t + 1) = S.count t + 1 := by have := HI.out.cnt_le ht; rw [IntKind.wrap_i64]; omega
        go_region
        have HA5 := Lib.hid ((HA4.out.put (arCells_count R _ ht (S.count t + 1)) rfl rfl rfl rfl rfl).drew)
        have HS5 := Lib.hid (HS4.out.trans ((Step.set HA4.out (q := ⟨p, 4 + t, none⟩) (.inl rfl) (.int .i64 (S.count t + 1))).drew))
        generalize World.drew _ = w5 at HA5 HS5 ⊢
        clear c4 f4
        have c5 : w5.cell? ⟨p, 132 + t, none⟩ = some (R.av t) := HA5.out.cAdded ht
        have f5 := HA5.out.f (132 + t)
        obtain ⟨A, acap, hav, ha1, ha2⟩ := (HA5.out.added t ht).form
        rw [hav] at c5
        have hpa : (w5.alloc (.cells #[.int .i64 i] 3)).cell? ⟨p, 132 + t, none⟩ = some (.slice A (S.added t).length acap) := (World.cell?_alloc_lt w5 _ ⟨p, 132 + t, none⟩ HA5.out.blk.lt).trans c5
        have HAV := Lib.hid hav
        have HSL := Lib.hid (HA5.out.added t ht)
        rw [hav] at HSL
        have HX := Lib.hid (Rd.fresh w5 IT #[.int .i64 i] 1 1 rfl (by unfold maxLen; omega))
        clear hav
        go_wp2_with fail
        go_region_law
          ((refine step_append_sl _ rfl (.tmp 124) (.tmp 126) 46 rfl IT (.int .i64 0) 1 8 Try.underlying46 Try.infoInt rfl (by decide) rfl (by exact HSL.out.alloc _) rfl (by exact HX.out) (by intro u hu; simp at hu; subst hu; rfl) (by have := HLN.out; omega) (by have := HLN.out; unfold maxLen; omega) ?_; intro v' w6 hs6 hm6 hd6; obtain ⟨d0, d1, d2, d3⟩ := add_end HA5.out ht HAV.out hm6.undrew hd6 hs6 rfl; obtain ⟨A', cap', rfl, g1, g2⟩ := hs6.form))
        all_goals go_wp2
        all_goals go_returns
        all_goals (
          have hg : gainS S t i = { S with ents := S.ents.set i { e with mask := setB e.mask t }, count := upd S.count t (S.count t + 1), added := upd S.added t (S.added t ++ [(i : Int)]) } := by unfold gainS; rw [HE.out]
          refine ⟨i, 0, gainS S t i, _, rfl, .joins i e HIX.out HE.out hb hq', ?_, (HS2.out.trans HS5.out).trans d3⟩
          rw [hg]; exact d2)
  | none =>
    have HIX := Lib.hid hix
    by_cases hq : S.quota t ≤ S.count t
    · go_wp2_with fail
      go_region
      go_wp2_with fail
      go_returns
      exact ⟨0, 9, S, R, rfl, .much (fun j e' hj _ => by rw [HIX.out] at hj; cases hj) hq, HA3.out.drew, (HS2.out.trans HS3.out).drew⟩
    · have hq' : S.count t < S.quota t := by omega
      clear hq
      go_wp2_with fail
      go_region
      clear c4 c5
      have HA4 := Lib.hid HA3.out.drew
      have HS4 := Lib.hid HS3.out.drew
      generalize World.drew _ = w4 at HA4 HS4 ⊢
      have c6 := HA4.out.cLive
      have c7 := HA4.out.cRoom
      by_cases hr : S.room ≤ S.live
      · go_wp2_with fail
        go_region
        clear c6 c7
        have HA5 := Lib.hid HA4.out.drew
        have HS5 := Lib.hid HS4.out.drew
        generalize World.drew _ = w5 at HA5 HS5 ⊢
        go_wp2_with fail
        (with_reducible refine (sweep_any w5 p R S HA5.out HI.out HL.out).mono ?_)
        rintro e w6 ⟨n, S0, R0, rfl, hsw, hA6, hs6⟩
        have HSW := Lib.hid hsw
        have HA6 := Lib.hid hA6
        have HS6 := Lib.hid (HS5.out.trans hs6)
        obtain ⟨hi0, hl0⟩ := hsw.inv HI.out HL.out
        have HI0 := Lib.hid hi0
        have HL0 := Lib.hid hl0
        clear hsw hA6 hs6 hi0 hl0
        have c6 := HA6.out.cLive
        have c7 := HA6.out.cRoom
        go_wp2_with fail
        by_cases hr0 : S0.room ≤ S0.live
        · go_region
          go_wp2_with fail
          go_returns
          exact ⟨0, 5, S0, R0, rfl, .full S0 n HIX.out hq' hr HSW.out hr0, HA6.out.drew, (HS2.out.trans HS6.out).drew⟩
        · go_region
          clear c6 c7
          have HA7 := Lib.hid HA6.out.drew
          have HS7 := Lib.hid HS6.out.drew
          generalize World.drew _ = w7 at HA7 HS7 ⊢
          have hro : S0.live < S0.room := by omega
          clear hr0
          have HID0 := Lib.hid (HSW.out.gone HI.out HIX.out)
          have HRO := Lib.hid hro
          have HSEL : Hid (S.live < S.room ∧ S0 = S ∨ S.room ≤ S.live ∧ ∃ n, SweepR S S0 n) := .inr ⟨hr, n, HSW.out⟩
          have HLN0 : Hid ((S0.added t).length ≤ 1000000) := by
            obtain ⟨Sx, hsx, hsx2⟩ := HSW.out
            show (S0.added t).length ≤ 1000000
            rw [hsx2]; show (Sx.added t).length ≤ 1000000
            rw [(hsx.facts HI.out).added]; exact HLN.out
          clear hro
          go_wp2_with fail
          (with_reducible refine (take_any w7 p R0 S0 HA7.out HI0.out HL0.out).mono ?_)
          rintro e w8 ⟨i, S1, R1, rfl, htk, hA8, hs8⟩
          obtain ⟨hinw, hez, hi2⟩ := HI0.out.made (va := va) htk hk HID0.out HLEV.out (by have := HL0.out; have := HRO.out; omega)
          have HTK := Lib.hid htk
          have HA8 := Lib.hid hA8
          have HS8 := Lib.hid (HS7.out.trans hs8)
          have HB8 := Lib.hid (HB2.out.mod HS8.out.mod HNO.out)
          have HIN := Lib.hid hinw
          have HEZ := Lib.hid hez
          have HINL : Hid (S1.ents.length ≤ 200002) := by have := hinw.lenN; unfold newS at this; rw [List.length_set] at this; exact this
          clear htk hA8 hs8 hinw hi2
          obtain ⟨b, off, cap, hlv, hc1, hc2, hc, hfr⟩ := HA8.out.ents (by have := (List.getElem?_eq_some_iff.1 hez).1; omega)
          have HLV := Lib.hid hlv
          have c0 := HA8.out.cList
          rw [hlv] at c0
          obtain ⟨⟨d0, d1, d2, d3, d4, d5, d6, d7⟩, f0, f1, f2, f3, f4, f5, f6, f7⟩ := HA8.out.cells8' HLV.out HEZ.out
          have b0 := HB8.out.cellS (i := 0) rfl
          have b1 := HB8.out.cellS (i := 1) rfl
          have b2 := HB8.out.cellS (i := 2) rfl
          have b3 := HB8.out.cellS (i := 3) rfl
          have b4 := HB8.out.cellS (i := 4) rfl
          have hil : (i : Int) < (S1.ents.length : Int) := by have := (List.getElem?_eq_some_iff.1 hez).1; omega
          have HIL : Hid (i < 200002) := by have := (List.getElem?_eq_some_iff.1 hez).1; have := HINL.out; have : i < 200002 := (by omega); exact this
          clear hc hfr hlv hez hc1
          go_wp2_with fail
          go_region
          obtain ⟨k1, k2⟩ := HA8.out.setEnt (e' := ⟨k, lv, va, 0⟩) HLV.out HEZ.out (Nat.zero_lt_succ _)
          have HA9 := Lib.hid k1.drew
          have HS9 := Lib.hid (HS8.out.trans k2.drew)
          clear k1 k2 d0 d1 d2 d3 d4 d5 d6 d7 f0 f1 f2 f3 f4 f5 f6 f7 c0 b0 b1 b2 b3 b4
          change Exit.then _ _ _ _ (World.drew (wrote8 w8 b (off + i * 8) ⟨k, lv, va, 0⟩))
          generalize World.drew _ = w9 at HA9 HS9 ⊢
          have HB9 := Lib.hid (HB2.out.mod HS9.out.mod HNO.out)
          have b0 := HB9.out.cellS (i := 0) rfl
          have b1 := HB9.out.cellS (i := 1) rfl
          have b2 := HB9.out.cellS (i := 2) rfl
          have b3 := HB9.out.cellS (i := 3) rfl
          have b4 := HB9.out.cellS (i := 4) rfl
          have c2 := HA9.out.cIdx
          have HKP := Lib.hid HTK.out.keeps
          obtain ⟨w10, hput, hk10, hm10⟩ := HA9.out.drew.idx.put hk (HKP.out.2.2.1.symm ▸ HID0.out) (by have := HKP.out.2.1; have := HI0.out.part; have := HI0.out.lenN; unfold maxLen; show S1.size < _; omega) (v := (i : Int)) ⟨by omega, by have := HIL.out; omega⟩
          obtain ⟨k1, k2⟩ := HA9.out.drew.reidx hk10 hm10
          have HA10 : Hid (ArM w10 p R1 (newS S1 i k lv va)) := k1
          have HS10 := Lib.hid (HS9.out.drew.trans k2)
          unfold KeyA.val at hput
          clear hk10 hm10 k1 k2
          go_wp2_with fail
          go_region
          clear hput b0 b1 b2 b3 b4 c2
          generalize hSn : newS S1 i k lv va = Sn at HA10 HIN
          have HE : Hid (Sn.ents[i]? = some ⟨k, lv, va, 0⟩) := by subst hSn; exact set_some HEZ.out
          have HSA : Hid (Sn.added = S0.added) := by subst hSn; exact HKP.out.2.2.2.2.2.1
          have HLV2 : Hid (R1.lv = .slice (some ⟨b, off, none⟩) Sn.ents.length cap) := by subst hSn; unfold newS; rw [List.length_set]; exact HLV.out
          have HSN := Lib.hid hSn
          clear hSn
          have c0 := HA10.out.cList
          rw [HLV.out] at c0
          obtain ⟨⟨_, _, _, _, _, _, _, d7⟩, _, _, _, _, _, _, _, f7⟩ := HA10.out.cells8' HLV.out HE.out
          have d7 : w10.cell? ⟨b, off + i * 8 + 7, none⟩ = some (.int .u64 0) := d7
          have hset : bits .or .u64 0 (IntKind.u64.wrap (2 ^ t)) = ((setB 0 t : Nat) : Int) := set_bits (m := 0) (Nat.zero_lt_succ _) ht
          go_wp2_with fail
          have HM0 : Hid (setB 0 t < 18446744073709551616) := setB_lt (Nat.zero_lt_succ _) ht
          have HA11 := Lib.hid ((HA10.out.mask (e := ⟨k, lv, va, 0⟩) HLV2.out HE.out HM0.out))
          have HS11 := Lib.hid (HS10.out.trans ((Step.set HA10.out (q := ⟨b, off + i * 8 + 7, none⟩) (Own.list HLV2.out) (.int .u64 (setB 0 t : Nat)))))
          clear hset
          generalize World.setCell w10 _ _ = w11 at HA11 HS11 ⊢
          clear c0 d7 f7
          have c4 : w11.cell? ⟨p, 4 + t, none⟩ = some (.int .i64 (Sn.count t)) := HA11.out.cCount ht
          have f4 := HA11.out.f (4 + t)
          have hwc : IntKind.i64.wrap (Sn.count t + 1) = Sn.count t + 1 := by have := HIN.out.cnt_le ht; rw [IntKind.wrap_i64]; omega
          go_wp2_with fail
          go_region
          have HA12 := Lib.hid ((HA11.out.put (arCells_count R1 _ ht (Sn.count t + 1)) rfl rfl rfl rfl rfl).drew)
          have HS12 := Lib.hid (HS11.out.trans ((Step.set HA11.out (q := ⟨p, 4 + t, none⟩) (.inl rfl) (.int .i64 (Sn.count t + 1))).drew))
          generalize World.drew _ = w12 at HA12 HS12 ⊢
          clear c4 f4
          have c5 : w12.cell? ⟨p, 132 + t, none⟩ = some (R1.av t) := HA12.out.cAdded ht
          have f5 := HA12.out.f (132 + t)
          obtain ⟨A, acap, hav, ha1, ha2⟩ := (HA12.out.added t ht).form
          rw [hav] at c5
          have HSL := Lib.hid (HA12.out.added t ht)
          rw [hav] at HSL
          have hpa : (w12.alloc (.cells #[.int .i64 i] 3)).cell? ⟨p, 132 + t, none⟩ = some (.slice A (Sn.added t).length acap) := (World.cell?_alloc_lt w12 _ ⟨p, 132 + t, none⟩ HA12.out.blk.lt).trans c5
          have HAV := Lib.hid hav
          have HX := Lib.hid (Rd.fresh w12 IT #[.int .i64 i] 1 1 rfl (by unfold maxLen; omega))
          have HLN1 : Hid ((Sn.added t).length ≤ 1000000) := by show (Sn.added t).length ≤ 1000000; rw [HSA.out]; exact HLN0.out
          clear hav
          go_wp2_with fail
          go_region_law
            ((refine step_append_sl _ rfl (.tmp 124) (.tmp 126) 46 rfl IT (.int .i64 0) 1 8 Try.underlying46 Try.infoInt rfl (by decide) rfl (by exact HSL.out.alloc _) rfl (by exact HX.out) (by intro u hu; simp at hu; subst hu; rfl) (by have := HLN1.out; omega) (by have := HLN1.out; unfold maxLen; omega) ?_; intro v' w6 hs6 hm6 hd6; obtain ⟨d0, d1, d2, d3⟩ := add_end HA12.out ht HAV.out hm6.undrew hd6 hs6 rfl; obtain ⟨A', cap', rfl, g1, g2⟩ := hs6.form))
          all_goals go_wp2
          all_goals go_returns
          all_goals (
            have hg : gainS Sn t i = { Sn with ents := Sn.ents.set i ⟨k, lv, va, setB 0 t⟩, count := upd Sn.count t (Sn.count t + 1), added := upd Sn.added t (Sn.added t ++ [(i : Int)]) } := by unfold gainS; rw [HE.out]
            refine ⟨i, 0, gainS (newS S1 i k lv va) t i, _, rfl, .makes S0 S1 i HIX.out hq' HSEL.out HRO.out HTK.out, ?_, (HS2.out.trans HS12.out).trans d3⟩
            rw [HSN.out, hg]; exact d2)
      · have hro : S.live < S.room := by omega
        go_wp2_with fail
        go_region
        clear c6 c7
        have HA5 := Lib.hid HA4.out.drew
        have HS5 := Lib.hid HS4.out.drew
        generalize World.drew _ = w5 at HA5 HS5 ⊢
        have c6 := HA5.out.cLive
        have c7 := HA5.out.cRoom
        go_wp2_with fail
        go_region
        clear c6 c7
        obtain ⟨S0, hS0⟩ : ∃ S0, S0 = S := ⟨S, rfl⟩
        have HA7 : Hid (ArM w5.drew p R S0) := by rw [hS0]; exact HA5.out.drew
        have HS7 := Lib.hid HS5.out.drew
        generalize World.drew _ = w7 at HA7 HS7 ⊢
        have HI0 : Hid (Inv S0) := by rw [hS0]; exact HI
        have HL0 : Hid (S0.live = S0.size) := by rw [hS0]; exact HL
        have HID0 : Hid (S0.idx k = none) := by rw [hS0]; exact HIX
        have HRO : Hid (S0.live < S0.room) := by show S0.live < S0.room; rw [hS0]; exact hro
        have HSEL : Hid (S.live < S.room ∧ S0 = S ∨ S.room ≤ S.live ∧ ∃ n, SweepR S S0 n) := .inl ⟨hro, hS0⟩
        have HLN0 : Hid ((S0.added t).length ≤ 1000000) := by rw [hS0]; exact HLN
        clear hS0
        clear hro
        go_wp2_with fail
        (with_reducible refine (take_any w7 p R S0 HA7.out HI0.out HL0.out).mono ?_)
        rintro e w8 ⟨i, S1, R1, rfl, htk, hA8, hs8⟩
        obtain ⟨hinw, hez, hi2⟩ := HI0.out.made (va := va) htk hk HID0.out HLEV.out (by have := HL0.out; have := HRO.out; omega)
        have HTK := Lib.hid htk
        have HA8 := Lib.hid hA8
        have HS8 := Lib.hid (HS7.out.trans hs8)
        have HB8 := Lib.hid (HB2.out.mod HS8.out.mod HNO.out)
        have HIN := Lib.hid hinw
        have HEZ := Lib.hid hez
        have HINL : Hid (S1.ents.length ≤ 200002) := by have := hinw.lenN; unfold newS at this; rw [List.length_set] at this; exact this
        clear htk hA8 hs8 hinw hi2
        obtain ⟨b, off, cap, hlv, hc1, hc2, hc, hfr⟩ := HA8.out.ents (by have := (List.getElem?_eq_some_iff.1 hez).1; omega)
        have HLV := Lib.hid hlv
        have c0 := HA8.out.cList
        rw [hlv] at c0
        obtain ⟨⟨d0, d1, d2, d3, d4, d5, d6, d7⟩, f0, f1, f2, f3, f4, f5, f6, f7⟩ := HA8.out.cells8' HLV.out HEZ.out
        have b0 := HB8.out.cellS (i := 0) rfl
        have b1 := HB8.out.cellS (i := 1) rfl
        have b2 := HB8.out.cellS (i := 2) rfl
        have b3 := HB8.out.cellS (i := 3) rfl
        have b4 := HB8.out.cellS (i := 4) rfl
        have hil : (i : Int) < (S1.ents.length : Int) := by have := (List.getElem?_eq_some_iff.1 hez).1; omega
        have HIL : Hid (i < 200002) := by have := (List.getElem?_eq_some_iff.1 hez).1; have := HINL.out; have : i < 200002 := (by omega); exact this
        clear hc hfr hlv hez hc1
        go_wp2_with fail
        go_region
        obtain ⟨k1, k2⟩ := HA8.out.setEnt (e' := ⟨k, lv, va, 0⟩) HLV.out HEZ.out (Nat.zero_lt_succ _)
        have HA9 := Lib.hid k1.drew
        have HS9 := Lib.hid (HS8.out.trans k2.drew)
        clear k1 k2 d0 d1 d2 d3 d4 d5 d6 d7 f0 f1 f2 f3 f4 f5 f6 f7 c0 b0 b1 b2 b3 b4
        change Exit.then _ _ _ _ (World.drew (wrote8 w8 b (off + i * 8) ⟨k, lv, va, 0⟩))
        generalize World.drew _ = w9 at HA9 HS9 ⊢
        have HB9 := Lib.hid (HB2.out.mod HS9.out.mod HNO.out)
        have b0 := HB9.out.cellS (i := 0) rfl
        have b1 := HB9.out.cellS (i := 1) rfl
        have b2 := HB9.out.cellS (i := 2) rfl
        have b3 := HB9.out.cellS (i := 3) rfl
        have b4 := HB9.out.cellS (i := 4) rfl
        have c2 := HA9.out.cIdx
        have HKP := Lib.hid HTK.out.keeps
        obtain ⟨w10, hput, hk10, hm10⟩ := HA9.out.drew.idx.put hk (HKP.out.2.2.1.symm ▸ HID0.out) (by have := HKP.out.2.1; have := HI0.out.part; have := HI0.out.lenN; unfold maxLen; show S1.size < _; omega) (v := (i : Int)) ⟨by omega, by have := HIL.out; omega⟩
        obtain ⟨k1, k2⟩ := HA9.out.drew.reidx hk10 hm10
        have HA10 : Hid (ArM w10 p R1 (newS S1 i k lv va)) := k1
        have HS10 := Lib.hid (HS9.out.drew.trans k2)
        unfold KeyA.val at hput
        clear hk10 hm10 k1 k2
        go_wp2_with fail
        go_region
        clear hput b0 b1 b2 b3 b4 c2
        generalize hSn : newS S1 i k lv va = Sn at HA10 HIN
        have HE : Hid (Sn.ents[i]? = some ⟨k, lv, va, 0⟩) := by subst hSn; exact set_some HEZ.out
        have HSA : Hid (Sn.added = S0.added) := by subst hSn; exact HKP.out.2.2.2.2.2.1
        have HLV2 : Hid (R1.lv = .slice (some ⟨b, off, none⟩) Sn.ents.length cap) := by subst hSn; unfold newS; rw [List.length_set]; exact HLV.out
        have HSN := Lib.hid hSn
        clear hSn
        have c0 := HA10.out.cList
        rw [HLV.out] at c0
        obtain ⟨⟨_, _, _, _, _, _, _, d7⟩, _, _, _, _, _, _, _, f7⟩ := HA10.out.cells8' HLV.out HE.out
        have d7 : w10.cell? ⟨b, off + i * 8 + 7, none⟩ = some (.int .u64 0) := d7
        have hset : bits .or .u64 0 (IntKind.u64.wrap (2 ^ t)) = ((setB 0 t : Nat) : Int) := set_bits (m := 0) (Nat.zero_lt_succ _) ht
        go_wp2_with fail
        have HM0 : Hid (setB 0 t < 18446744073709551616) := setB_lt (Nat.zero_lt_succ _) ht
        have HA11 := Lib.hid ((HA10.out.mask (e := ⟨k, lv, va, 0⟩) HLV2.out HE.out HM0.out))
        have HS11 := Lib.hid (HS10.out.trans ((Step.set HA10.out (q := ⟨b, off + i * 8 + 7, none⟩) (Own.list HLV2.out) (.int .u64 (setB 0 t : Nat)))))
        clear hset
        generalize World.setCell w10 _ _ = w11 at HA11 HS11 ⊢
        clear c0 d7 f7
        have c4 : w11.cell? ⟨p, 4 + t, none⟩ = some (.int .i64 (Sn.count t)) := HA11.out.cCount ht
        have f4 := HA11.out.f (4 + t)
        have hwc : IntKind.i64.wrap (Sn.count t + 1) = Sn.count t + 1 := by have := HIN.out.cnt_le ht; rw [IntKind.wrap_i64]; omega
        go_wp2_with fail
        go_region
        have HA12 := Lib.hid ((HA11.out.put (arCells_count R1 _ ht (Sn.count t + 1)) rfl rfl rfl rfl rfl).drew)
        have HS12 := Lib.hid (HS11.out.trans ((Step.set HA11.out (q := ⟨p, 4 + t, none⟩) (.inl rfl) (.int .i64 (Sn.count t + 1))).drew))
        generalize World.drew _ = w12 at HA12 HS12 ⊢
        clear c4 f4
        have c5 : w12.cell? ⟨p, 132 + t, none⟩ = some (R1.av t) := HA12.out.cAdded ht
        have f5 := HA12.out.f (132 + t)
        obtain ⟨A, acap, hav, ha1, ha2⟩ := (HA12.out.added t ht).form
        rw [hav] at c5
        have HSL := Lib.hid (HA12.out.added t ht)
        rw [hav] at HSL
        have hpa : (w12.alloc (.cells #[.int .i64 i] 3)).cell? ⟨p, 132 + t, none⟩ = some (.slice A (Sn.added t).length acap) := (World.cell?_alloc_lt w12 _ ⟨p, 132 + t, none⟩ HA12.out.blk.lt).trans c5
        have HAV := Lib.hid hav
        have HX := Lib.hid (Rd.fresh w12 IT #[.int .i64 i] 1 1 rfl (by unfold maxLen; omega))
        have HLN1 : Hid ((Sn.added t).length ≤ 1000000) := by show (Sn.added t).length ≤ 1000000; rw [HSA.out]; exact HLN0.out
        clear hav
        go_wp2_with fail
        go_region_law
          ((refine step_append_sl _ rfl (.tmp 124) (.tmp 126) 46 rfl IT (.int .i64 0) 1 8 Try.underlying46 Try.infoInt rfl (by decide) rfl (by exact HSL.out.alloc _) rfl (by exact HX.out) (by intro u hu; simp at hu; subst hu; rfl) (by have := HLN1.out; omega) (by have := HLN1.out; unfold maxLen; omega) ?_; intro v' w6 hs6 hm6 hd6; obtain ⟨d0, d1, d2, d3⟩ := add_end HA12.out ht HAV.out hm6.undrew hd6 hs6 rfl; obtain ⟨A', cap', rfl, g1, g2⟩ := hs6.form))
        all_goals go_wp2
        all_goals go_returns
        all_goals (
          have hg : gainS Sn t i = { Sn with ents := Sn.ents.set i ⟨k, lv, va, setB 0 t⟩, count := upd Sn.count t (Sn.count t + 1), added := upd Sn.added t (Sn.added t ++ [(i : Int)]) } := by unfold gainS; rw [HE.out]
          refine ⟨i, 0, gainS (newS S1 i k lv va) t i, _, rfl, .makes S0 S1 i HIX.out hq' HSEL.out HRO.out HTK.out, ?_, (HS2.out.trans HS12.out).trans d3⟩
          rw [HSN.out, hg]; exact d2)
end Go.Proofs.Ytdbhddkkcchmmaa

namespace Go.Proofs.Ytdbhddkkcchmmaa
open Go.RowKit

def qAt (q0 q1 q2 q3 : Int) (j : Nat) : Int := if j = 0 then q0 else if j = 1 then q1 else if j = 2 then q2 else q3
/-- What Join does, and what it tells. -/
inductive JoinR (S : ArS) (t : Nat) (q0 q1 q2 q3 : Int) : Int → Int → ArS → Prop
  | none (j : Nat) : j < 4 → ownsB S t (qAt q0 q1 q2 q3 j) 0 = false → JoinR S t q0 q1 q2 q3 0 6 S
  | level (j : Nat) : (∀ j, j < 4 → ownsB S t (qAt q0 q1 q2 q3 j) 0 = true) → j < 4 → levelOf S (qAt q0 q1 q2 q3 j) ≠ levelOf S q0 ∨ 44 ≤ levelOf S q0 → JoinR S t q0 q1 q2 q3 0 8 S
  | gives (r x : Int) (S' : ArS) : (∀ j, j < 4 → ownsB S t (qAt q0 q1 q2 q3 j) 0 = true) → (∀ j, j < 4 → levelOf S (qAt q0 q1 q2 q3 j) = levelOf S q0) → levelOf S q0 < 44 → GiveR S t ⟨0, q0, q1, q2, q3⟩ (levelOf S q0 + 1) 0 r x S' → JoinR S t q0 q1 q2 q3 r x S'
theorem idx4 (q0 q1 q2 q3 : Int) (i : Nat) (hi : i < 4) (w : World) : (Instr.index 51 (.agg #[.int .i64 q0, .int .i64 q1, .int .i64 q2, .int .i64 q3]) (.int .i64 (i : Int))).run Try.prog w = .ok (.int .i64 (qAt q0 q1 q2 q3 i)) w := by
  rcases (by omega : i = 0 ∨ i = 1 ∨ i = 2 ∨ i = 3) with rfl | rfl | rfl | rfl <;> kernel_rfl
theorem own_i64 {S : ArS} (hI : Inv S) {t : Nat} {id kind : Int} (h : ownsB S t id kind = true) : i64r id := by
  obtain ⟨i, e, h1, h2, _⟩ := owns_range hI.len h
  have := hI.lenN
  exact ⟨by omega, by omega⟩
theorem level_pos {S : ArS} (hI : Inv S) (id : Int) : 0 ≤ levelOf S id ∧ levelOf S id ≤ 44 := by
  unfold levelOf
  cases he : S.ents[id.toNat]? with
  | none => exact ⟨Int.le_refl _, by decide⟩
  | some e => have := hI.keys e (List.mem_of_getElem? he); exact ⟨this.2.1, this.2.2.1⟩
def JoinPost (w : World) (p : Nat) (R : ArR) (S : ArS) (t : Nat) (q0 q1 q2 q3 : Int) (e : Ending) (w' : World) : Prop :=
  ∃ (r x : Int) (S' : ArS) (R' : ArR), e = .returned (.tuple #[.int .i64 r, .int .i64 x]) ∧ JoinR S t q0 q1 q2 q3 r x S' ∧ ArM w' p R' S' ∧ Step p R R' w w'

set_option maxRecDepth 100000 in
set_option maxHeartbeats 3200000 in
theorem join_any (w : World) (p : Nat) (R : ArR) (S : ArS) (h : ArM w p R S) (hI : Inv S) (hl : S.live = S.size) (t : Nat) (ht : t < 64) (hal : (S.added t).length ≤ 1000000) (q0 q1 q2 q3 : Int) :
    Calls Try.prog 27 #[.pointer (some ⟨p, 0, none⟩), .int .i64 t, .agg #[.int .i64 q0, .int .i64 q1, .int .i64 q2, .int .i64 q3]] w (JoinPost w p R S t q0 q1 q2 q3) := by
  have H := Lib.hid h
  have HI := Lib.hid hI
  have HL := Lib.hid hl
  have HLN := Lib.hid hal
  have k4 : (t : Int) < 64 := by omega
  clear h hI hl hal
  go_enter Try.func27, Try.ntmps27
  go_wp2_with fail
  (with_reducible refine (tenant_any _ t).mono ?_)
  rintro e wq ⟨rfl, rfl⟩
  rw [decide_eq_true (show 0 ≤ (t : Int) ∧ (t : Int) < 64 by omega)]
  go_wp2_with fail
  generalize hw2 : World.alloc _ _ = w2
  have HA2 : Hid (ArM w2 p R S) := by subst hw2; exact H.out.alloc _
  have HS2 : Hid (Step p R R w w2) := by subst hw2; exact (Step.refl p R w).alloc _
  have HB2 : Hid (Blk w2 w.heap.size 51 #[.int .i64 q0, .int .i64 q1, .int .i64 q2, .int .i64 q3]) := by subst hw2; exact Blk.new w _ _
  clear hw2
  go_loopw [19] (fun iv wx => ∃ i : Nat, iv = .int .i64 i ∧ i ≤ 4 ∧ (∀ j, j < i → ownsB S t (qAt q0 q1 q2 q3 j) 0 = true) ∧ wx = w2) (fun iv _ => 4 - (intOf iv).toNat)
  case atStart => exact ⟨0, rfl, Nat.zero_le _, fun j hj => absurd hj (Nat.not_lt_zero _), rfl⟩
  case round =>
    obtain ⟨i, rfl, hi, ho, rfl⟩ := hrel
    have HO := Lib.hid ho
    clear ho
    by_cases hi4 : i < 4
    · have hq := fun w => idx4 q0 q1 q2 q3 i hi4 w
      have HB := Lib.hid (owns_any wr p R S HA2.out HI.out.len t ht (qAt q0 q1 q2 q3 i) 0)
      have HI4 := Lib.hid hi4
      have hlt : (i : Int) < 4 := by omega
      have hwi := wrap_nat' i (by unfold maxLen; omega)
      clear hi4 hi
      cases hb : ownsB S t (qAt q0 q1 q2 q3 i) 0
      · rw [hb] at HB
        have HN := Lib.hid hb
        clear hb
        go_wp2_with fail
        (with_reducible refine HB.out.mono ?_)
        rintro e wq ⟨rfl, rfl⟩
        go_wp2_with fail
        go_returns
        exact ⟨0, 6, S, R, rfl, .none _ HI4.out HN.out, HA2.out, HS2.out⟩
      · rw [hb] at HB
        have HN := Lib.hid hb
        clear hb
        go_wp2_with fail
        (with_reducible refine HB.out.mono ?_)
        rintro e wq ⟨rfl, rfl⟩
        go_wp2_with fail
        go_roundw
        case rel =>
          refine ⟨i + 1, by go_num, HI4.out, fun j hj => ?_, trivial⟩
          rcases Nat.lt_succ_iff_lt_or_eq.1 hj with h | h
          · exact HO.out j h
          · rw [h]; exact HN.out
        case measure => simp [intOf]; have := HI4.out; omega
    · have hi5 : i = 4 := by omega
      subst hi5
      obtain ⟨i0, e0, hi0, hil0, he0⟩ := owns_range HI.out.len (HO.out 0 (by omega))
      obtain ⟨b, off, cap, hlv, hc1, hc2, hc, hfr⟩ := HA2.out.ents (by have := HI.out.len; omega)
      have HLV := Lib.hid hlv
      have c0 := HA2.out.cList
      rw [hlv] at c0
      have hq0 : q0 = i0 := hi0
      clear hi0
      subst hq0
      have HLE : Hid (e0.level = levelOf S (i0 : Int)) := by show e0.level = levelOf S (i0 : Int); unfold levelOf; rw [Int.toNat_natCast, he0]
      have c5 : wr.cell? ⟨b, off + i0 * 8 + 5, none⟩ = some (.int .i64 e0.level) := hc i0 e0 5 _ he0 rfl
      rw [HLE.out] at c5
      have b0 := HB2.out.cellS (i := 0) rfl
      have b1 := HB2.out.cellS (i := 1) rfl
      have b2 := HB2.out.cellS (i := 2) rfl
      have b3 := HB2.out.cellS (i := 3) rfl
      have hil : (i0 : Int) < (S.ents.length : Int) := by omega
      have HC := Lib.hid hc
      clear hlv hc hfr hc1 hil0 he0
      go_wp2_with fail
      go_region
      go_wp2_with fail
      clear c0 c5 b0
      have HA3 := Lib.hid HA2.out.drew
      have HS3 := Lib.hid HS2.out.drew
      have HBD : Blk wr.drew w.heap.size 51 #[.int .i64 (i0 : Int), .int .i64 q1, .int .i64 q2, .int .i64 q3] := HB2.out
      generalize World.drew _ = w3 at HA3 HS3 HBD ⊢
      have HB3 : Hid (Blk w3 w.heap.size 51 #[.int .i64 (i0 : Int), .int .i64 q1, .int .i64 q2, .int .i64 q3]) := HBD
      clear HBD
      go_loopw [38] (fun iv wx => ∃ i : Nat, iv = .int .i64 i ∧ i ≤ 4 ∧ (∀ j, j < i → levelOf S (qAt (i0 : Int) q1 q2 q3 j) = levelOf S (i0 : Int) ∧ levelOf S (i0 : Int) < 44) ∧ wx = w3) (fun iv _ => 4 - (intOf iv).toNat)
      case atStart => exact ⟨0, rfl, Nat.zero_le _, fun j hj => absurd hj (Nat.not_lt_zero _), rfl⟩
      case round =>
        obtain ⟨i, rfl, hi, hlo, rfl⟩ := hrel
        have HLO := Lib.hid hlo
        clear hlo
        by_cases hi4 : i < 4
        · have hq := fun w => idx4 (i0 : Int) q1 q2 q3 i hi4 w
          obtain ⟨i1, e1, hi1, hil1, he1⟩ := owns_range HI.out.len (HO.out i hi4)
          obtain ⟨b, off, cap, hlv, hc1, hc2, hc, hfr⟩ := HA3.out.ents (by have := HI.out.len; omega)
          have c0 := HA3.out.cList
          rw [hlv] at c0
          have HLE1 : Hid (levelOf S (qAt (i0 : Int) q1 q2 q3 i) = e1.level) := by show levelOf S (qAt (i0 : Int) q1 q2 q3 i) = e1.level; unfold levelOf; rw [hi1, Int.toNat_natCast, he1]
          have c5 : wr.cell? ⟨b, off + i1 * 8 + 5, none⟩ = some (.int .i64 e1.level) := hc i1 e1 5 _ he1 rfl
          have hil' : (i1 : Int) < (S.ents.length : Int) := by omega
          have HI4 := Lib.hid hi4
          have hlt : (i : Int) < 4 := by omega
          have hwi := wrap_nat' i (by unfold maxLen; omega)
          rw [hi1] at hq
          clear hi4 hi hlv hc hfr hc1 hi1 hil1 he1
          by_cases hd : e1.level = levelOf S (i0 : Int)
          · by_cases h44 : levelOf S (i0 : Int) < 44
            · have hb1 : (e1.level == levelOf S (i0 : Int)) = true := by rw [beq_iff_eq]; exact hd
              have HD := Lib.hid hd
              rw [hd] at c5
              clear hd hb1
              go_wp2_with fail
              go_roundw
              case rel =>
                refine ⟨i + 1, by go_num, HI4.out, fun j hj => ?_, trivial⟩
                rcases Nat.lt_succ_iff_lt_or_eq.1 hj with h | h
                · exact HLO.out j h
                · rw [h]; exact ⟨HLE1.out.trans HD.out, h44⟩
              case measure => simp [intOf]; have := HI4.out; omega
            · have h44' : 44 ≤ levelOf S (i0 : Int) := by omega
              rw [hd] at c5
              clear hd h44
              go_wp2_with fail
              go_returns
              exact ⟨0, 8, S, R, rfl, .level i HO.out HI4.out (.inr h44'), HA3.out, HS3.out⟩
          · have hd2 : (e1.level == levelOf S (i0 : Int)) = false := by rw [beq_eq_false_iff_ne]; exact hd
            go_wp2_with fail
            go_returns
            exact ⟨0, 8, S, R, rfl, .level i HO.out HI4.out (.inl (by rw [HLE1.out]; exact hd)), HA3.out, HS3.out⟩
        · have hi5 : i = 4 := by omega
          subst hi5
          have HK : Hid (KeyA.ok ⟨0, i0, q1, q2, q3⟩) := ⟨⟨by show (-9223372036854775808 : Int) ≤ 0; decide, by show (0 : Int) ≤ 9223372036854775807; decide⟩, own_i64 HI.out (HO.out 0 (by decide)), own_i64 HI.out (HO.out 1 (by decide)), own_i64 HI.out (HO.out 2 (by decide)), own_i64 HI.out (HO.out 3 (by decide))⟩
          have HLV : Hid (0 ≤ levelOf S (i0 : Int) + 1 ∧ levelOf S (i0 : Int) + 1 ≤ 44) := ⟨by have := (level_pos HI.out (i0 : Int)).1; omega, by have := (HLO.out 0 (by decide)).2; omega⟩
          have hwl : IntKind.i64.wrap (levelOf S (i0 : Int) + 1) = levelOf S (i0 : Int) + 1 := by have := HLV.out; rw [IntKind.wrap_i64]; omega
          have b0 := HB3.out.cellS (i := 0) rfl
          have b1 := HB3.out.cellS (i := 1) rfl
          have b2 := HB3.out.cellS (i := 2) rfl
          have b3 := HB3.out.cellS (i := 3) rfl
          go_wp2_with fail
          have hg := give_any wr p R S HA3.out HI.out HL.out t ht HLN.out ⟨0, i0, q1, q2, q3⟩ HK.out (levelOf S (i0 : Int) + 1) 0 HLV.out
          (with_reducible refine hg.mono ?_)
          rintro e w4 ⟨r, x, S', R', rfl, hgr, hA4, hs4⟩
          have HGR := Lib.hid hgr
          have HA4 := Lib.hid hA4
          have HS4 := Lib.hid (HS3.out.trans hs4)
          clear hg hgr hA4 hs4
          go_wp2_with fail
          go_returns
          exact ⟨r, x, S', R', rfl, .gives r x S' HO.out (fun j hj => (HLO.out j hj).1) (HLO.out 0 (by decide)).2 HGR.out, HA4.out, HS4.out⟩
end Go.Proofs.Ytdbhddkkcchmmaa

namespace Go.Proofs.Ytdbhddkkcchmmaa
open Go.RowKit

/-- What Kids tells. -/
def kidsA (S : ArS) (t : Nat) (id : Int) (e : Ending) : Prop :=
  (ownsB S t id 0 = false ∨ id < 2) ∧ e = .returned (.tuple #[.agg #[.int .i64 0, .int .i64 0, .int .i64 0, .int .i64 0], .int .i64 6]) ∨
  ∃ (i : Nat) (en : EntD), id = i ∧ 2 ≤ i ∧ S.ents[i]? = some en ∧ ownsB S t id 0 = true ∧ e = .returned (.tuple #[.agg #[.int .i64 en.key.a0, .int .i64 en.key.a1, .int .i64 en.key.a2, .int .i64 en.key.a3], .int .i64 0])

set_option maxRecDepth 100000 in
set_option maxHeartbeats 3200000 in
theorem kids_any (w : World) (p : Nat) (R : ArR) (S : ArS) (h : ArM w p R S) (hlen : 2 ≤ S.ents.length) (t : Nat) (ht : t < 64) (id : Int) :
    Calls Try.prog 54 #[.pointer (some ⟨p, 0, none⟩), .int .i64 t, .int .i64 id] w fun e w' => kidsA S t id e ∧ Below w.heap.size w w' := by
  have HA2 : Hid (ArM (w.alloc (.cells #[.int .i64 0, .int .i64 0, .int .i64 0, .int .i64 0] 51)) p R S) := h.alloc _
  obtain ⟨b, off, cap, hlv, hc1, hc2, hc, _⟩ := HA2.out.ents (by omega)
  have c0 := HA2.out.cList
  rw [hlv] at c0
  have HC := Lib.hid hc
  have k4 : (t : Int) < 64 := by omega
  have HO := Lib.hid (owns_any _ p R S HA2.out hlen t ht id 0)
  clear h hc hlv
  by_cases h2 : id < 2
  · have H2 := Lib.hid h2
    generalize hL : S.ents.length = n at *
    clear hL
    go_enter Try.func54, Try.ntmps54
    go_wp2_with fail
    (with_reducible refine (tenant_any _ t).mono ?_)
    rintro e wq ⟨rfl, rfl⟩
    rw [decide_eq_true (show 0 ≤ (t : Int) ∧ (t : Int) < 64 by omega)]
    go_wp2_with fail
    go_returns
    exact ⟨.inl ⟨.inr H2.out, rfl⟩, (Below.refl _ _).alloc (Nat.le_refl _) _⟩
  · cases hb : ownsB S t id 0
    · rw [hb] at HO
      have HB := Lib.hid hb
      clear hb
      generalize hL : S.ents.length = n at *
      clear hL
      go_enter Try.func54, Try.ntmps54
      go_wp2_with fail
      (with_reducible refine (tenant_any _ t).mono ?_)
      rintro e wq ⟨rfl, rfl⟩
      rw [decide_eq_true (show 0 ≤ (t : Int) ∧ (t : Int) < 64 by omega)]
      go_wp2_with fail
      (with_reducible refine HO.out.mono ?_)
      rintro e wq ⟨rfl, rfl⟩
      go_wp2_with fail
      go_returns
      exact ⟨.inl ⟨.inl HB.out, rfl⟩, (Below.refl _ _).alloc (Nat.le_refl _) _⟩
    · rw [hb] at HO
      obtain ⟨i, e, rfl, hi, he⟩ := owns_range hlen hb
      have c1 := HC.out i e 1 _ he rfl
      have c2 := HC.out i e 2 _ he rfl
      have c3 := HC.out i e 3 _ he rfl
      have c4 := HC.out i e 4 _ he rfl
      rw [show off + i * 8 + 2 = off + i * 8 + 1 + 1 from rfl] at c2
      rw [show off + i * 8 + 3 = off + i * 8 + 1 + 2 from rfl] at c3
      rw [show off + i * 8 + 4 = off + i * 8 + 1 + 3 from rfl] at c4
      have hil : (i : Int) < (S.ents.length : Int) := by omega
      have HB := Lib.hid hb
      have HE := Lib.hid he
      have HI : Hid (2 ≤ i) := by show 2 ≤ i; omega
      clear hi he hb
      generalize hL : S.ents.length = n at *
      clear hL
      go_enter Try.func54, Try.ntmps54
      go_wp2_with fail
      (with_reducible refine (tenant_any _ t).mono ?_)
      rintro e' wq ⟨rfl, rfl⟩
      rw [decide_eq_true (show 0 ≤ (t : Int) ∧ (t : Int) < 64 by omega)]
      go_wp2_with fail
      (with_reducible refine HO.out.mono ?_)
      rintro e' wq ⟨rfl, rfl⟩
      go_wp2_with fail
      go_returns
      exact ⟨.inr ⟨i, e, rfl, HI.out, HE.out, HB.out, rfl⟩, (Below.refl _ _).alloc (Nat.le_refl _) _⟩
end Go.Proofs.Ytdbhddkkcchmmaa

namespace Go.Proofs.Ytdbhddkkcchmmaa
open Go.RowKit

def kidsOf (e : EntD) : List Int := [e.key.a0, e.key.a1, e.key.a2, e.key.a3]
/-- What roots are made of, as far as it is a tenant's own. -/
inductive Reach (S : ArS) (t : Nat) (roots : List Int) : Int → Prop
  | root (x : Int) : x ∈ roots → 2 ≤ x → ownsB S t x 0 = true → Reach S t roots x
  | kid (i : Nat) (e : EntD) (x : Int) : Reach S t roots (i : Int) → S.ents[i]? = some e → x ∈ kidsOf e → 2 ≤ x → ownsB S t x 0 = true → Reach S t roots x
/-- The work in hand: what is kept, what is yet to be looked at. -/
structure CleanI (S : ArS) (t : Nat) (roots K W : List Int) : Prop where
  nodup : K.Nodup
  kept : ∀ x ∈ K, Reach S t roots x
  work : ∀ x ∈ W, 2 ≤ x → ownsB S t x 0 = true → Reach S t roots x
  roots : ∀ x ∈ roots, 2 ≤ x → ownsB S t x 0 = true → x ∈ K ∨ x ∈ W
  kids : ∀ (i : Nat) e x, (i : Int) ∈ K → S.ents[i]? = some e → x ∈ kidsOf e → 2 ≤ x → ownsB S t x 0 = true → x ∈ K ∨ x ∈ W
theorem Reach.own {S : ArS} {t : Nat} {roots : List Int} {x : Int} (h : Reach S t roots x) : 2 ≤ x ∧ ownsB S t x 0 = true := by
  cases h with
  | root _ _ h1 h2 => exact ⟨h1, h2⟩
  | kid _ _ _ _ _ _ h1 h2 => exact ⟨h1, h2⟩
theorem CleanI.start (S : ArS) (t : Nat) (roots : List Int) : CleanI S t roots [] roots :=
  { nodup := List.nodup_nil, kept := fun _ h => absurd h List.not_mem_nil, work := fun x h h2 ho => Reach.root x h h2 ho, roots := fun _x h _ _ => Or.inr h, kids := fun _ _ _ h => absurd h List.not_mem_nil }
theorem CleanI.skip {S : ArS} {t : Nat} {roots K W : List Int} {x : Int} (h : CleanI S t roots K (W ++ [x])) (hx : x ∈ K ∨ x < 2 ∨ ownsB S t x 0 = false) : CleanI S t roots K W := by
  have key : ∀ y, (y ∈ K ∨ y ∈ W ++ [x]) → 2 ≤ y → ownsB S t y 0 = true → y ∈ K ∨ y ∈ W := by
    intro y hy h2 ho
    rcases hy with hy | hy
    · exact .inl hy
    · rcases List.mem_append.1 hy with hy | hy
      · exact .inr hy
      · rw [List.mem_singleton] at hy
        subst hy
        rcases hx with h1 | h1 | h1
        · exact .inl h1
        · omega
        · rw [ho] at h1; cases h1
  exact ⟨h.nodup, h.kept, fun y hy => h.work y (List.mem_append_left _ hy), fun y hy h2 ho => key y (h.roots y hy h2 ho) h2 ho, fun i e y hi he hy h2 ho => key y (h.kids i e y hi he hy h2 ho) h2 ho⟩
theorem CleanI.keep {S : ArS} {t : Nat} {roots K W : List Int} {i : Nat} {e : EntD} (h : CleanI S t roots K (W ++ [(i : Int)])) (hx : (i : Int) ∉ K) (h2 : 2 ≤ i) (ho : ownsB S t i 0 = true) (he : S.ents[i]? = some e) :
    CleanI S t roots ((i : Int) :: K) (W ++ kidsOf e) := by
  have hr := h.work i (List.mem_append_right _ (List.mem_singleton.2 rfl)) (by omega) ho
  have key : ∀ y, (y ∈ K ∨ y ∈ W ++ [(i : Int)]) → y ∈ (i : Int) :: K ∨ y ∈ W ++ kidsOf e := by
    intro y hy
    rcases hy with hy | hy
    · exact .inl (List.mem_cons_of_mem _ hy)
    · rcases List.mem_append.1 hy with hy | hy
      · exact .inr (List.mem_append_left _ hy)
      · rw [List.mem_singleton] at hy; exact .inl (hy ▸ List.mem_cons_self ..)
  refine ⟨List.nodup_cons.2 ⟨hx, h.nodup⟩, fun y hy => ?_, fun y hy h3 ho3 => ?_, fun y hy h3 ho3 => key y (h.roots y hy h3 ho3), fun j e' y hj he' hy h3 ho3 => ?_⟩
  · rcases List.mem_cons.1 hy with rfl | hy
    · exact hr
    · exact h.kept y hy
  · rcases List.mem_append.1 hy with hy | hy
    · exact h.work y (List.mem_append_left _ hy) h3 ho3
    · exact .kid i e y hr he hy h3 ho3
  · rcases List.mem_cons.1 hj with hj | hj
    · have : j = i := by omega
      subst this
      rw [he] at he'; cases he'
      exact .inr (List.mem_append_right _ hy)
    · exact key y (h.kids j e' y hj he' hy h3 ho3)
theorem CleanI.done {S : ArS} {t : Nat} {roots K : List Int} (h : CleanI S t roots K []) (_hI : Inv S) (x : Int) : x ∈ K ↔ Reach S t roots x := by
  refine ⟨h.kept x, fun hx => ?_⟩
  induction hx with
  | root x h1 h2 h3 => rcases h.roots x h1 h2 h3 with h4 | h4; exact h4; cases h4
  | kid i e x hp he hx h2 h3 ih => rcases h.kids i e x ih he hx h2 h3 with h4 | h4; exact h4; cases h4
theorem CleanI.len {S : ArS} {t : Nat} {roots K W : List Int} (h : CleanI S t roots K W) (hI : Inv S) : K.length ≤ S.ents.length := by
  have hs : ∀ x ∈ K, x ∈ (List.range S.ents.length).map (fun n : Nat => (n : Int)) := fun x hx => by
    obtain ⟨i, e, h1, h2, _⟩ := owns_range hI.len (h.kept x hx).own.2
    exact List.mem_map.2 ⟨i, List.mem_range.2 h2, h1.symm⟩
  have := List.Nodup.length_le_of_subset h.nodup hs
  simpa using this
/-- What Clean does. -/
def CleanR (S : ArS) (t : Nat) (roots : List Int) (S' : ArS) : Prop :=
  ∃ L : List Int, (∀ x ∈ L, ∃ i : Nat, x = i ∧ 2 ≤ i ∧ i < S.ents.length) ∧ (∀ i : Nat, 2 ≤ i → i < S.ents.length → ((i : Int) ∈ L ↔ ¬ Reach S t roots i)) ∧ S' = { loseL S t L with added := upd S.added t [] }
theorem CleanR.inv {S S' : ArS} {t : Nat} {roots : List Int} (h : CleanR S t roots S') (ht : t < 64) (hI : Inv S) : Inv S' := by
  obtain ⟨L, _, _, rfl⟩ := h
  have h1 := loseL_inv ht L S hI
  have h2 := h1.mark t
  rw [(loseL_keeps t L S).1] at h2
  exact h2
def lenOf : Value → Nat
  | .slice _ n _ => n
  | _ => 0
theorem Sl.chop {w : World} {t : TypeId} {b off m cap : Nat} {W : List Int} {x : Int} (h : Sl w t 1 (.slice (some ⟨b, off, none⟩) (m + 1) cap) (m + 1) (intsV (W ++ [x]))) : Sl w t 1 (.slice (some ⟨b, off, none⟩) m cap) m (intsV W) := by
  obtain ⟨h1, A, cap', e, c1, c2, c3, c4⟩ := h
  injection e with e1 _ e2
  subst e1; subst e2
  rw [intsV_len, List.length_append] at h1
  have hW : W.length = m := by simp at h1; omega
  refine ⟨by rw [intsV_len]; omega, _, _, rfl, by omega, c2, (fun h => nomatch h), fun a ha => ?_⟩
  obtain ⟨cs, d1, d2, d3, d4⟩ := c4 a ha
  refine ⟨cs, d1, d2, d3, ?_⟩
  have : (cs.toList.drop a.off).take (m * 1) = ((cs.toList.drop a.off).take ((m + 1) * 1)).take (m * 1) := by rw [List.take_take]; congr 1; omega
  rw [this, d4]
  unfold intsV
  rw [List.map_append, List.take_append_of_le_length (by simp; omega), List.take_of_length_le (by simp; omega)]
theorem Rd.kids {w : World} {b o : Nat} {e : EntD} (h1 : w.cell? ⟨b, o + 1, none⟩ = some (.int .i64 e.key.a0)) (h2 : w.cell? ⟨b, o + 2, none⟩ = some (.int .i64 e.key.a1)) (h3 : w.cell? ⟨b, o + 3, none⟩ = some (.int .i64 e.key.a2)) (h4 : w.cell? ⟨b, o + 4, none⟩ = some (.int .i64 e.key.a3)) :
    Rd w (b + 1) 1 (.slice (some ⟨b, o + 1, none⟩) 4 4) 4 (intsV (kidsOf e)) :=
  ⟨rfl, _, _, rfl, Nat.le_refl _, by unfold maxLen; omega, fun _ => ⟨_, _, rfl, by omega, fun j u hj => by
    have hlt := (List.getElem?_eq_some_iff.1 hj).1
    have hlt : j < 4 := hlt
    rcases (by omega : j = 0 ∨ j = 1 ∨ j = 2 ∨ j = 3) with rfl | rfl | rfl | rfl
    · cases hj; exact h1
    · cases hj; exact h2
    · cases hj; exact h3
    · cases hj; exact h4⟩⟩
/-- What holds while the work is done. -/
structure CleanW (w : World) (p : Nat) (R : ArR) (S : ArS) (t : Nat) (roots : List Int) (sv : Value) (wx : World) (K W : List Int) : Prop where
  sl : Sl wx IT 1 sv W.length (intsV W)
  ci : CleanI S t roots K W
  map : MapI wx w.heap.size K
  arm : ArM wx p R S
  step : Step p R R w wx
  new : ∀ b, sblk sv = some b → w.heap.size ≤ b
  rng : ∀ x ∈ W, i64r x
  few : W.length ≤ 1000 + 4 * K.length
section
variable {w wx : World} {p : Nat} {R : ArR} {S : ArS} {t : Nat} {roots : List Int} {sv : Value} {K W : List Int}
theorem CleanW.skip {x : Int} {b off m cap : Nat} (h : CleanW w p R S t roots (.slice (some ⟨b, off, none⟩) (m + 1) cap) wx K (W ++ [x])) (hx : x ∈ K ∨ x < 2 ∨ ownsB S t x 0 = false) (ob : Obj) :
    CleanW w p R S t roots (.slice (some ⟨b, off, none⟩) m cap) (wx.alloc ob) K W := by
  have hs := h.sl
  have hl : (W ++ [x]).length = m + 1 := by obtain ⟨_, A, c, e, _⟩ := hs; injection e with _ e _; omega
  rw [hl] at hs
  have hW : W.length = m := by simp at hl; exact hl
  refine ⟨by rw [hW]; exact (hs.chop).alloc ob, h.ci.skip hx, h.map.alloc ob, h.arm.alloc ob, h.step.alloc ob, fun b' hb => h.new b' hb, fun y hy => h.rng y (List.mem_append_left _ hy), ?_⟩
  have := h.few
  simp at this; omega
theorem CleanW.chop3 {x : Int} {b off m cap : Nat} {w1 : World} {ob : Obj} (hA : ArM w p R S) (h : CleanW w p R S t roots (.slice (some ⟨b, off, none⟩) (m + 1) cap) wx K (W ++ [x])) (hm1 : Mod (fun q => q = w.heap.size) (wx.alloc ob) w1) :
    Sl w1 IT 1 (.slice (some ⟨b, off, none⟩) m cap) m (intsV W) ∧ ArM w1 p R S := by
  have hs := h.sl
  have hl : (W ++ [x]).length = m + 1 := by obtain ⟨_, A, c, e, _⟩ := hs; injection e with _ e _; omega
  rw [hl] at hs
  have hbm : w.heap.size ≠ b := by
    obtain ⟨_, cs, hk'⟩ := hs.lt (b := b) rfl
    exact h.map.ne hk'
  exact ⟨((hs.chop).alloc ob).mod hm1 fun q hq e => hbm (by subst e; exact (Option.some.inj hq).symm), (h.arm.alloc ob).keep hm1 fun q hq e => by have := hA.own_lt hq; omega⟩
theorem CleanW.start (hA : ArM w p R S) {w2 : World} (hs : Sl w2 IT 1 sv roots.length (intsV roots)) (hm : Mod (fun _ => False) (w.alloc (.map #[] 0)) w2) (hd : sblk sv = none ∨ sblk sv = some (w.alloc (.map #[] 0)).heap.size) (hr : ∀ x ∈ roots, i64r x) (hn : roots.length ≤ 1000) :
    CleanW w p R S t roots sv w2 [] roots := by
  have hM : Mod (fun _ => False) w w2 := ((Mod.refl (fun _ => False) w).alloc (.map #[] 0)).trans hm fun _ _ h => h
  refine ⟨hs, CleanI.start S t roots, (MapI.made w).mod hm fun h => h, hA.keep hM fun _ _ h => h, ⟨hM.mono fun _ _ h => h.elim, fun _ h => .inl h⟩, fun b hb => ?_, hr, by simp; omega⟩
  rcases hd with h | h
  · rw [h] at hb; cases hb
  · rw [h] at hb; have := Option.some.inj hb; simp at this; omega
theorem CleanW.keep {i : Nat} {e : EntD} {b off m cap : Nat} {w1 w2 : World} {v' : Value} (hA : ArM w p R S) (hI : Inv S) (h : CleanW w p R S t roots (.slice (some ⟨b, off, none⟩) (m + 1) cap) wx K (W ++ [(i : Int)])) (hx : (i : Int) ∉ K) (h2 : 2 ≤ i) (ho : ownsB S t i 0 = true) (he : S.ents[i]? = some e) (ob : Obj)
    (hk : MapI w1 w.heap.size ((i : Int) :: K)) (hm1 : Mod (fun q => q = w.heap.size) (wx.alloc ob) w1) (hs : Sl w2 IT 1 v' (m + 4) (intsV W ++ intsV (kidsOf e))) (hm2 : Mod (fun q => some b = some q) w1 w2) (hd : sblk v' = some b ∨ sblk v' = some w1.heap.size) :
    CleanW w p R S t roots v' w2 ((i : Int) :: K) (W ++ kidsOf e) := by
  have hl : (W ++ [(i : Int)]).length = m + 1 := by obtain ⟨_, A, c, e, _⟩ := h.sl; injection e with _ e _; omega
  have hW : W.length = m := by simp at hl; exact hl
  have hb : w.heap.size ≤ b := h.new b rfl
  have hbm : w.heap.size ≠ b := by
    obtain ⟨_, cs, hk'⟩ := h.sl.lt (b := b) rfl
    exact h.map.ne hk'
  have hM0 : Mod (fun q => w.heap.size ≤ q) wx w2 := (((Mod.refl _ wx).alloc ob).trans hm1 fun q _ e => by subst e; exact Nat.le_refl _).trans hm2 fun q _ e => by have := Option.some.inj e; omega
  have hci := h.ci.keep hx h2 ho he
  have hw1 : wx.heap.size ≤ w1.heap.size := Nat.le_trans (by simp) hm1.size
  refine ⟨?_, hci, hk.mod hm2 fun e => hbm (Option.some.inj e).symm, h.arm.keep hM0 fun q hq => by have := hA.own_lt hq; omega, ?_, fun b' hb' => ?_, fun y hy => ?_, ?_⟩
  · have : intsV (W ++ kidsOf e) = intsV W ++ intsV (kidsOf e) := by unfold intsV; rw [List.map_append]
    rw [this, List.length_append, hW]
    exact hs
  · exact ⟨h.step.mod.trans hM0 fun q hq hle => by omega, fun _ h => .inl h⟩
  · rcases hd with h1 | h1
    · rw [h1] at hb'; have := Option.some.inj hb'; omega
    · rw [h1] at hb'; have := Option.some.inj hb'; have := h.step.mod.size; omega
  · rcases List.mem_append.1 hy with h1 | h1
    · exact h.rng y (List.mem_append_left _ h1)
    · have hok := (hI.keys e (List.mem_of_getElem? he)).1
      obtain ⟨_, k0, k1, k2, k3⟩ := hok
      simp only [kidsOf, List.mem_cons, List.not_mem_nil, or_false] at h1
      rcases h1 with rfl | rfl | rfl | rfl
      · exact k0
      · exact k1
      · exact k2
      · exact k3
  · have := h.few
    simp only [List.length_append, List.length_cons, List.length_nil, kidsOf] at this ⊢; omega
end
/-- What is not kept, below a number. -/
def leftOut (K : List Int) (i : Nat) : List Int := ((List.range i).filter fun j : Nat => decide (2 ≤ j) && !decide ((j : Int) ∈ K)).map fun j : Nat => (j : Int)
theorem leftOut_two (K : List Int) : leftOut K 2 = [] := rfl
theorem leftOut_in {K : List Int} {i : Nat} (h : (i : Int) ∈ K) : leftOut K (i + 1) = leftOut K i := by
  unfold leftOut; rw [List.range_succ, List.filter_append]; simp [h]
theorem leftOut_out {K : List Int} {i : Nat} (h2 : 2 ≤ i) (h : (i : Int) ∉ K) : leftOut K (i + 1) = leftOut K i ++ [(i : Int)] := by
  unfold leftOut; rw [List.range_succ, List.filter_append, List.map_append]; simp [h, h2]
theorem leftOut_mem {K : List Int} {n i : Nat} (hi : i < n) (h2 : 2 ≤ i) : (i : Int) ∈ leftOut K n ↔ (i : Int) ∉ K := by
  unfold leftOut
  rw [List.mem_map]
  constructor
  · rintro ⟨j, hj, he⟩
    have : j = i := by omega
    subst this
    rw [List.mem_filter] at hj
    have := hj.2
    simp at this
    exact this.2
  · intro h
    exact ⟨i, List.mem_filter.2 ⟨List.mem_range.2 hi, by simp [h2, h]⟩, rfl⟩
theorem leftOut_rng {K : List Int} {n : Nat} : ∀ x ∈ leftOut K n, ∃ i : Nat, x = i ∧ 2 ≤ i ∧ i < n := by
  intro x hx
  unfold leftOut at hx
  obtain ⟨j, hj, he⟩ := List.mem_map.1 hx
  rw [List.mem_filter] at hj
  have := hj.2
  simp at this
  exact ⟨j, he.symm, this.1, List.mem_range.1 hj.1⟩
def CleanPost (w : World) (p : Nat) (R : ArR) (S : ArS) (t : Nat) (roots : List Int) (e : Ending) (w' : World) : Prop :=
  ∃ (S' : ArS) (R' : ArR), e = .returned (.int .i64 (S.count t - S'.count t)) ∧ CleanR S t roots S' ∧ ArM w' p R' S' ∧ Step p R R' w w'

set_option maxRecDepth 100000 in
set_option maxHeartbeats 3200000 in
theorem clean_any (w : World) (p : Nat) (R : ArR) (S : ArS) (h : ArM w p R S) (hI : Inv S) (t : Nat) (ht : t < 64) (v : Value) (n : Nat) (roots : List Int) (hv : Sl w IT 1 v n (intsV roots)) (hn : n ≤ 1000) (hro : ∀ x ∈ roots, i64r x) :
    Calls Try.prog 22 #[.pointer (some ⟨p, 0, none⟩), .int .i64 t, v] w (CleanPost w p R S t roots) := by
  have H := Lib.hid h
  have HI := Lib.hid hI
  have HV := Lib.hid hv
  have HRO := Lib.hid hro
  have k4 : (t : Int) < 64 := by omega
  obtain ⟨A, cap, rfl, hc1, hc2⟩ := hv.form
  clear h hI hro hv
  go_enter Try.func22, Try.ntmps22
  go_wp2_with fail
  (with_reducible refine (tenant_any _ t).mono ?_)
  rintro e wq ⟨rfl, rfl⟩
  rw [decide_eq_true (show 0 ≤ (t : Int) ∧ (t : Int) < 64 by omega)]
  have HNO : Hid (¬ Own p R w.heap.size) := fun hb => Nat.lt_irrefl _ (H.out.own_lt hb)
  have hmm := @run_makeMap Try.prog
  have HX : Hid (Rd (w.alloc (.map #[] 0)) (w.alloc (.map #[] 0)).heap.size 1 (.slice A n cap) n (intsV roots)) := (HV.out.alloc _).rd
  go_wp2_with (at_builtin; go_loud (refine wpList_append_sl _ rfl (.const (.slice none 0 0)) (.tmp 24) 46 rfl IT (.int .i64 0) 1 8 Try.underlying46 Try.infoInt rfl (by decide) (v := .slice none 0 0) (n := 0) (xs := []) rfl (Sl.nil _ _ _) rfl (by exact HX.out) (intsV_one roots) (by omega) (by unfold maxLen; omega) ?_); intro v' w2 hs2 hm2 hd2; obtain ⟨A', cap', rfl, g1, g2⟩ := hs2.form)
  have hrl : roots.length = n := HV.out.out
  rw [Nat.zero_add, List.nil_append] at hs2
  rw [Nat.zero_add] at hd2 g1
  have HC := Lib.hid (CleanW.start (t := t) (sv := .slice A' n cap') H.out (by rw [hrl]; exact hs2) (hm2.mono fun b _ h => by simp [sblk] at h) (by
    rcases hd2 with h | ⟨h, _⟩
    · exact .inl h
    · exact .inr h) HRO.out (by omega))
  have HRL := Lib.hid hrl
  have G1 := Lib.hid g1
  have G2 := Lib.hid g2
  clear hm2 hs2 hd2 hmm hrl g1 g2 hc1 hc2 hn
  go_loopw [8] (fun sv wx => ∃ K W, (∃ A c, sv = .slice A W.length c ∧ W.length ≤ c ∧ c ≤ maxLen) ∧ CleanW w p R S t roots sv wx K W) (fun sv wx => 4 * (S.ents.length - mapSize wx w.heap.size) + lenOf sv)
  case atStart => exact ⟨[], roots, ⟨A', cap', by rw [HRL.out], by rw [HRL.out]; exact G1.out, G2.out⟩, HC.out⟩
  case round =>
    obtain ⟨K, W, ⟨A2, cap2, rfl, e1, e2⟩, hcw⟩ := hrel
    have HCW := Lib.hid hcw
    have HKL := Lib.hid (hcw.ci.len HI.out)
    have HMS := Lib.hid hcw.map.size
    rcases List.eq_nil_or_concat W with rfl | ⟨W, x, hW⟩
    · have HDN := Lib.hid (fun x => hcw.ci.done HI.out x)
      have c1 := hcw.arm.cCount ht
      clear hcw
      clear e1
      go_wp2_with fail
      have HW1 := Lib.hid HCW.out.arm
      have HST1 := Lib.hid HCW.out.step
      have HK1 := Lib.hid HCW.out.map
      clear c1 HCW HMS HC HX HV
      generalize hLw : wr.heap.size = hz
      clear hLw
      go_loopw [13] (fun iv wx => ∃ i : Nat, iv = .int .i64 i ∧ 2 ≤ i ∧ i ≤ S.ents.length ∧ ArM wx p R (loseL S t (leftOut K i)) ∧ Step p R R w wx ∧ MapI wx w.heap.size K) (fun iv _ => S.ents.length - (intOf iv).toNat)
      case atStart => exact ⟨2, rfl, Nat.le_refl _, HI.out.len, HW1.out, HST1.out, HK1.out⟩
      case round =>
        obtain ⟨i, rfl, hi2, hi, hA, hst, hK⟩ := hrel
        have hIi := loseL_inv ht (leftOut K i) S HI.out
        have hcn := hIi.cnt_le ht
        have hkp := loseL_keeps t (leftOut K i) S
        have HA := Lib.hid hA
        have HST := Lib.hid hst
        have HKP := Lib.hid hkp
        have HK := Lib.hid hK
        obtain ⟨b, off, cap3, hlv, hc1, hc2, _⟩ := hA.ents (by have := hIi.len; omega)
        have c0 := hA.cList
        rw [hlv, hkp.2.1] at c0
        by_cases hin : i < S.ents.length
        · have hi64 : i64r (i : Int) := ⟨by omega, by have := HI.out.lenN; omega⟩
          have hlk := hK.look hi64
          have hlt : (i : Int) < (S.ents.length : Int) := by omega
          have hwi := wrap_nat' i (by have := HI.out.lenN; unfold maxLen; omega)
          have HIN := Lib.hid hin
          have HI2 := Lib.hid hi2
          by_cases hk : (i : Int) ∈ K
          · rw [decide_eq_true hk] at hlk
            have HKI := Lib.hid hk
            clear hk hA hst hkp hK hIi hcn hin hi hi2 hi64 hlv hc1
            go_wp2_with fail
            go_roundw
            case rel => exact ⟨i + 1, by go_num, by have := HI2.out; omega, HIN.out, by rw [leftOut_in HKI.out]; exact HA.out.alloc _, HST.out.alloc _, HK.out.alloc _⟩
            case measure => simp [intOf]; have := HIN.out; omega
          · rw [decide_eq_false hk] at hlk
            have HKI := Lib.hid hk
            have HLO := Lib.hid (lose_any _ p R _ (HA.out.alloc (.cells #[] 83)) t ht i (by rw [hkp.2.1]; exact hin) (by omega))
            clear hk hA hst hkp hK hIi hcn hin hi hi2 hi64 hlv hc1
            go_wp2_with fail
            (with_reducible refine HLO.out.mono ?_)
            rintro e w5 ⟨rfl, hm5, hs5⟩
            have HM5 : Hid (ArM w5 p R (loseL S t (leftOut K (i + 1)))) := by
              show ArM w5 p R _
              rw [leftOut_out HI2.out HKI.out, loseL_snoc, Int.toNat_natCast]; exact hm5
            have HS5 : Hid (Step p R R w w5) := (HST.out.alloc _).trans hs5
            have HK5 := Lib.hid ((HK.out.alloc (.cells #[] 83)).mod hs5.mod HNO.out)
            clear hm5 hs5
            go_wp2_with fail
            go_roundw
            case rel => exact ⟨.int .i64 ((i : Int) + 1), _, _, _, _, _, _, _, _, _, _, _, _, _, _, _, _, _, _, _, _, _, _, _, ⟨i + 1, by go_num, by have := HI2.out; omega, HIN.out, HM5.out, HS5.out, HK5.out⟩, rfl⟩
            case measure => simp [intOf]; have := HIN.out; omega
        · have hge : (S.ents.length : Int) ≤ (i : Int) := by omega
          have hin' : i = S.ents.length := by omega
          rw [hin'] at HA
          have HIF := Lib.hid (loseL_inv ht (leftOut K S.ents.length) S HI.out)
          have c1 := HA.out.cCount ht
          have f1 := HA.out.f (132 + t)
          have c2 := HA.out.cAdded ht
          have hwr : IntKind.i64.wrap (S.count t - (loseL S t (leftOut K S.ents.length)).count t) = S.count t - (loseL S t (leftOut K S.ents.length)).count t := by have := HIF.out.cnt_le ht; have := HI.out.cnt_le ht; rw [IntKind.wrap_i64]; omega
          have HQ := Lib.hid (HA.out.setAdded ht (l := []) (v := nilV) (Sl.nil _ _ _) (fun b hb => by simp [nilV, sblk] at hb))
          have HR := Lib.hid (HST.out.trans (Step.added HA.out (t := t) (v := nilV) (fun b hb => by simp [nilV, sblk] at hb)))
          have c3 : (wr.setCell ⟨p, 132 + t, none⟩ (.slice none 0 0)).cell? ⟨p, 4 + t, none⟩ = some (.int .i64 ((loseL S t (leftOut K S.ents.length)).count t)) := HQ.out.cCount ht
          clear hA hst hkp hK hIi hcn hin hi hi2 hlv hc1 hin'
          go_wp2_with fail
          go_returns
          refine ⟨{ loseL S t (leftOut K S.ents.length) with added := upd S.added t [] }, _, rfl, ⟨leftOut K S.ents.length, leftOut_rng, fun i h2 hi => ?_, rfl⟩, ?_, HR.out⟩
          · rw [leftOut_mem hi h2, HDN.out]
          · have := HQ.out
            rw [(loseL_keeps t (leftOut K S.ents.length) S).1] at this
            exact this
    · rw [List.concat_eq_append] at hW
      subst hW
      have hlw : (W ++ [x]).length = W.length + 1 := by simp
      rw [hlw] at hcw HCW e1 ⊢
      have hsl := hcw.sl
      rw [hlw] at hsl
      obtain ⟨b, off, cap3, hA2, _, _, hbB, hc, _⟩ := hsl.at (by omega)
      injection hA2 with hA2 _ hcap; subst hA2; subst hcap
      have c0 : wr.cell? ⟨b, off + W.length, none⟩ = some (.int .i64 x) := hc W.length _ (intsV_at (by simp))
      have hlk := hcw.map.look (hcw.rng x (by simp))
      have hfew : W.length ≤ 1000 + 4 * K.length := by have := hcw.few; simp at this; omega
      have hwn : wrap64 ((W.length : Nat) : Int) = W.length := by have := HKL.out; have := HI.out.lenN; unfold wrap64; omega
      have HFEW := Lib.hid hfew
      clear hcw hc hsl hlw hfew
      generalize hm : W.length = m at *
      have HM := Lib.hid hm
      clear hm
      have hil : (m : Int) < (m : Int) + 1 := by omega
      by_cases hk : x ∈ K
      · rw [decide_eq_true hk] at hlk
        go_wp2_with fail
        go_roundw
        case rel => exact ⟨K, W, ⟨_, cap2, by rw [HM.out], by rw [HM.out]; omega, e2⟩, HCW.out.skip (.inl hk) _⟩
        case measure =>
          have h1 := (HCW.out.map.alloc (.cells #[] 83)).size
          have h2 := HCW.out.map.size
          rw [h1, h2]
          simp [lenOf]
      · have hkf := hk
        rw [decide_eq_false hk] at hlk
        have HKF := Lib.hid hkf
        clear hk hkf
        by_cases h2 : x < 2
        · go_wp2_with fail
          go_roundw
          case rel => exact ⟨K, W, ⟨_, cap2, by rw [HM.out], by rw [HM.out]; omega, e2⟩, HCW.out.skip (.inr (.inl h2)) _⟩
          case measure =>
            have h1 := (HCW.out.map.alloc (.cells #[] 83)).size
            have h2 := HCW.out.map.size
            rw [h1, h2]
            simp [lenOf]
        · have HO := Lib.hid (owns_any _ p R S (HCW.out.arm.alloc (.cells #[] 83)) HI.out.len t ht x 0)
          cases hb : ownsB S t x 0
          · rw [hb] at HO
            have HB := Lib.hid hb
            clear hb
            go_wp2_with fail
            (with_reducible refine HO.out.mono ?_)
            rintro e wq ⟨rfl, rfl⟩
            go_wp2_with fail
            go_roundw
            case rel => exact ⟨K, W, ⟨_, cap2, by rw [HM.out], by rw [HM.out]; omega, e2⟩, HCW.out.skip (.inr (.inr HB.out)) _⟩
            case measure =>
              have h1 := (HCW.out.map.alloc (.cells #[] 83)).size
              have h2 := HCW.out.map.size
              rw [h1, h2]
              simp [lenOf]
          · rw [hb] at HO
            obtain ⟨i, e, rfl, hi, he⟩ := owns_range HI.out.len hb
            have HB := Lib.hid hb
            have HE := Lib.hid he
            have hil2 : (i : Int) < (S.ents.length : Int) := by omega
            have hi64 := own_i64 HI.out hb
            clear hb he hi
            obtain ⟨w3, hput, hk3, hm3⟩ := (HCW.out.map.alloc (.cells #[] 83)).put hi64 HKF.out (by have := HKL.out; have := HI.out.lenN; unfold maxLen; omega)
            have HK3 := Lib.hid hk3
            have HM3 := Lib.hid hm3
            clear hk3 hm3 hi64
            go_wp2_with fail
            (with_reducible refine HO.out.mono ?_)
            rintro e9 wq ⟨rfl, rfl⟩
            obtain ⟨k1, k2⟩ := HCW.out.chop3 H.out HM3.out
            have HS3 := Lib.hid k1
            have HA3 := Lib.hid k2
            clear k1 k2
            obtain ⟨b2, off2, cap2', hlv, ⟨d0, d1, d2, d3, d4, d5, d6, d7⟩, _⟩ := HA3.out.cells8 HE.out
            have c3 := HA3.out.cList
            rw [hlv] at c3
            have HX3 := Lib.hid (Rd.kids (e := e) d1 d2 d3 d4)
            clear hlv d0 d1 d2 d3 d4 d5 d6 d7
            go_wp2_with (at_builtin; go_loud (refine wpList_append_sl _ rfl (.tmp 61) (.tmp 70) 46 rfl IT (.int .i64 0) 1 8 Try.underlying46 Try.infoInt rfl (by decide) rfl (by exact HS3.out) rfl (by exact HX3.out) (intsV_one _) (by have := HFEW.out; have := HM.out; have := HKL.out; have := HI.out.lenN; omega) (by have := HFEW.out; have := HM.out; have := HKL.out; have := HI.out.lenN; unfold maxLen; omega) ?_); intro v4 w4 hs4 hm4 hd4; obtain ⟨A4, cap4, rfl, g3, g4⟩ := hs4.form)
            have HN := Lib.hid (HCW.out.keep (v' := .slice A4 (m + 4) cap4) H.out HI.out HKF.out (by omega) HB.out HE.out (.cells #[] 83) HK3.out HM3.out hs4 hm4 (by
              rcases hd4 with h | ⟨h, _⟩
              · exact .inl h
              · exact .inr h))
            have hw4 : (W ++ kidsOf e).length = m + 4 := by rw [List.length_append, HM.out]; rfl
            have HW4 := Lib.hid hw4
            have G3 := Lib.hid g3
            have G4 := Lib.hid g4
            clear hs4 hm4 hd4 hw4 g3 g4
            go_wp2_with fail
            go_roundw
            case rel => exact ⟨(i : Int) :: K, W ++ kidsOf e, ⟨A4, cap4, by rw [HW4.out], by rw [HW4.out]; exact G3.out, G4.out⟩, HN.out⟩
            case measure =>
              have h1 := HN.out.map.size
              have h2 := HCW.out.map.size
              have h3 := HN.out.ci.len HI.out
              rw [h1, h2]
              simp only [List.length_cons, lenOf] at h3 ⊢
              omega
end Go.Proofs.Ytdbhddkkcchmmaa

namespace Go.Proofs.Ytdbhddkkcchmmaa
open Go.RowKit

/-- What others had stays, and what one had may go. -/
structure Less (S S' : ArS) : Prop where
  live : S'.live = S.live
  size : S'.size = S.size
  room : S'.room = S.room
  quota : S'.quota = S.quota
  count : ∀ t, S'.count t ≤ S.count t
  added : S'.added = S.added
theorem Less.refl (S : ArS) : Less S S := ⟨rfl, rfl, rfl, rfl, fun _ => Int.le_refl _, rfl⟩
theorem loseS_less (S : ArS) (t i : Nat) : Less S (loseS S t i) := by
  unfold loseS
  cases S.ents[i]? with
  | none => exact Less.refl S
  | some e =>
    simp only
    split
    · refine ⟨rfl, rfl, rfl, rfl, fun k => ?_, rfl⟩
      show upd S.count t (S.count t - 1) k ≤ S.count k
      by_cases hk : k = t
      · subst hk; rw [upd_same]; omega
      · rw [upd_ne _ _ hk]; exact Int.le_refl _
    · exact Less.refl S
theorem loseL_less (t : Nat) : ∀ (l : List Int) (S : ArS), Less S (loseL S t l)
  | [], S => Less.refl S
  | x :: l, S => by
    have h1 := loseS_less S t x.toNat
    have h2 := loseL_less t l (loseS S t x.toNat)
    exact ⟨h2.live.trans h1.live, h2.size.trans h1.size, h2.room.trans h1.room, h2.quota.trans h1.quota, fun k => Int.le_trans (h2.count k) (h1.count k), h2.added.trans h1.added⟩
theorem mask_bit {m : Nat} (h0 : m ≠ 0) (hm : m < 18446744073709551616) : ∃ t, t < 64 ∧ m.testBit t = true := by
  obtain ⟨t, ht⟩ := Nat.exists_testBit_of_ne_zero h0
  refine ⟨t, ?_, ht⟩
  by_cases h : t < 64
  · exact h
  · have : m.testBit t = false := Nat.testBit_lt_two_pow (Nat.lt_of_lt_of_le hm (by
      rw [show 18446744073709551616 = 2 ^ 64 by decide]; exact Nat.pow_le_pow_right (by decide) (by omega)))
    rw [this] at ht; cases ht
section
variable {S S' : ArS}
theorem gain_in {t j : Nat} {e : EntD} (he : S.ents[j]? = some e) : gainS S t j = { S with ents := S.ents.set j { e with mask := setB e.mask t }, count := upd S.count t (S.count t + 1), added := upd S.added t (S.added t ++ [(j : Int)]) } := by unfold gainS; rw [he]
theorem sweep_keeps (hI : Inv S) {n : Nat} (h : SweepR S S' n) : S'.count = S.count ∧ S'.quota = S.quota ∧ S'.added = S.added ∧ S'.room = S.room ∧ S'.ents.length = S.ents.length := by
  obtain ⟨S1, h1, rfl⟩ := h
  have hf := h1.facts hI
  exact ⟨hf.count, hf.quota, hf.added, hf.room, hf.len⟩
end
end Go.Proofs.Ytdbhddkkcchmmaa
