/- arena: give. · arena: Join, Note, Recall. · arena: small laws of losing, sweeping, giving. · ArenaAlone: what an arena holds, told apart from its numbers. -/
import Derived.Test.YthohnjgnpapnoaaGreatDoorR6
import Derived.Carry
set_option linter.unusedVariables false
set_option linter.unusedSimpArgs false
namespace Go.Proofs.YthohnjgnpapnoaaGreatDoor
open Go.RowKit
def GivePost (w:World) (p:Nat) (R:ArR) (S:ArS) (t:Nat) (k:KeyA) (lv va:Int) (e:Ending) (w':World):Prop:=
 ∃(r x:Int) (S':ArS) (R':ArR),e= .returned (.tuple #[.int .i64 r,.int .i64 x])∧GiveR S t k lv va r x S'∧ArM w' p R' S'∧Step p R R' w w'
set_option maxRecDepth 100000 in
set_option maxHeartbeats 3200000 in
theorem give_any (w:World) (p:Nat) (R:ArR) (S:ArS) (h:ArM w p R S) (hI:Inv S) (hl:S.live=S.size) (t:Nat) (ht:t<64) (hal:(S.added t).length≤1000000) (k:KeyA) (hk:k.ok) (lv va:Int) (hlev:0≤lv∧lv≤44):
 Calls Tryz.prog 101 #[.pointer (some ⟨p,0,none⟩),.int .i64 t,.agg #[.int .i64 k.kind,.int .i64 k.a0,.int .i64 k.a1,.int .i64 k.a2,.int .i64 k.a3],.int .i64 lv,.int .i64 va] w (GivePost w p R S t k lv va):=by
 have H:=Lib.hid h
 have HI:=Lib.hid hI
 have HL:=Lib.hid hl
 have HLN:=Lib.hid hal
 have HNO:Hid (¬Own p R w.heap.size):=fun hb=>Nat.lt_irrefl _ (h.own_lt hb)
 have HLEV:=Lib.hid hlev
 have k4:(t:Int)<64:=by omega
 clear h hI hl hal hlev
 go_enter Tryz.func101,Tryz.ntmps101
 go_wp2_with fail
 generalize hw2:World.alloc _ _=w2
 have HA2:Hid (ArM w2 p R S):=by subst hw2;exact H.out.alloc _
 have HS2:Hid (Step p R R w w2):=by subst hw2;exact (Step.refl p R w).alloc _
 have HB2:Hid (Blk w2 w.heap.size 170 #[.int .i64 k.kind,.int .i64 k.a0,.int .i64 k.a1,.int .i64 k.a2,.int .i64 k.a3]):=by subst hw2;exact Blk.new w _ _
 have b0:=HB2.out.cellS (i:=0) rfl
 have b1:=HB2.out.cellS (i:=1) rfl
 have b2:=HB2.out.cellS (i:=2) rfl
 have b3:=HB2.out.cellS (i:=3) rfl
 have b4:=HB2.out.cellS (i:=4) rfl
 have c2:=HA2.out.cIdx
 obtain ⟨v,hlk,hlv⟩:=HA2.out.drew.idx.look hk
 have HV:=Lib.hid hlv
 unfold KeyA.val at hlk
 clear hw2 hlv
 go_region
 clear hlk b0 b1 b2 b3 b4 c2
 generalize hw3:World.drew _=w3
 have HA3:Hid (ArM w3 p R S):=by subst hw3;exact HA2.out.drew
 have HS3:Hid (Step p R R w2 w3):=by subst hw3;exact (Step.refl p R w2).drew
 clear hw3
 have c4:=HA3.out.cCount ht
 have c5:=HA3.out.cQuota ht
 cases hix:S.idx k with
 | some x=>
   have hvx:v=x:=HV.out x hix
   subst hvx
   obtain ⟨i,e,rfl,h2,he,hek⟩:=HI.out.idx _ _ hix
   obtain ⟨b,off,cap,hlv,hc1,hc2,hc,hfr⟩:=HA3.out.ents (by have:=HI.out.len;omega)
   have c0:=HA3.out.cList
   rw [hlv] at c0
   have c1:w3.cell? ⟨b,off+i*8+7,none⟩=some (.int .u64 (e.mask:Int)):=hc i e 7 _ he rfl
   have f1:=hfr (off+i*8+7)
   have hil:(i:Int)<(S.ents.length:Int):=by have:=(List.getElem?_eq_some_iff.1 he).1;omega
   have hbit:=bit_test e.mask t (HA3.out.masks e (List.mem_of_getElem? he))
   have HMS:=Lib.hid (HA3.out.masks e (List.mem_of_getElem? he))
   have HLV:=Lib.hid hlv
   have HE:=Lib.hid he
   have HEK:=Lib.hid hek
   have HIX:=Lib.hid hix
   clear hc hfr hlv he hek h2 hc1
   by_cases hb:e.mask.testBit t=true
   ·rw [hb] at hbit
    go_wp2_with fail
    go_returns
    exact ⟨i,0,S,R,rfl,.has i e HIX.out HE.out hb,HA3.out,HS2.out.trans HS3.out⟩
   ·rw [Bool.not_eq_true] at hb
    rw [hb] at hbit
    by_cases hq:S.quota t≤S.count t
    ·go_wp2_with fail
     go_region
     go_wp2_with fail
     go_ret2
     exact ⟨0,9,S,R,rfl,.much (fun j e' hj he'=>by
      have:=HIX.out.symm.trans hj
      have:=Option.some.inj this
      have:j=i:=by omega
      subst this
      rw [HE.out] at he';cases he';exact hb) hq,HA3.out.drew,(HS2.out.trans HS3.out).drew⟩
    ·have hq':S.count t<S.quota t:=by omega
     clear hq
     go_wp2_with fail
     go_region
     go_wp2_with fail
     rw [set_bits HMS.out ht]
     have HA4:=Lib.hid ((HA3.out.mask (e:=e) HLV.out HE.out (setB_lt HMS.out ht)).drew)
     have HS4:=Lib.hid (HS3.out.trans ((Step.set HA3.out (q:=⟨b,off+i*8+7,none⟩) (Own.list HLV.out) (.int .u64 (setB e.mask t:Nat))).drew))
     generalize World.drew _=w4 at HA4 HS4 ⊢
     clear c0 c1 f1 c4 c5
     have c4:w4.cell? ⟨p,4+t,none⟩=some (.int .i64 (S.count t)):=HA4.out.cCount ht
     have f4:=HA4.out.f (4+t)
     have hwc:IntKind.i64.wrap (S.count t+1)=S.count t+1:=by have:=HI.out.cnt_le ht;rw [IntKind.wrap_i64];omega
     go_region
     have HA5:=Lib.hid ((HA4.out.put (arCells_count R _ ht (S.count t+1)) rfl rfl rfl rfl rfl).drew)
     have HS5:=Lib.hid (HS4.out.trans ((Step.set HA4.out (q:=⟨p,4+t,none⟩) (.inl rfl) (.int .i64 (S.count t+1))).drew))
     generalize World.drew _=w5 at HA5 HS5 ⊢
     clear c4 f4
     have c5:w5.cell? ⟨p,132+t,none⟩=some (R.av t):=HA5.out.cAdded ht
     have f5:=HA5.out.f (132+t)
     obtain ⟨A,acap,hav,ha1,ha2⟩:=(HA5.out.added t ht).form
     rw [hav] at c5
     have hpa:(w5.alloc (.cells #[.int .i64 i] 3)).cell? ⟨p,132+t,none⟩=some (.slice A (S.added t).length acap):=(World.cell?_alloc_lt w5 _ ⟨p,132+t,none⟩ HA5.out.blk.lt).trans c5
     have HAV:=Lib.hid hav
     have HSL:=Lib.hid (HA5.out.added t ht)
     rw [hav] at HSL
     have HX:=Lib.hid (Rd.fresh w5 IT #[.int .i64 i] 1 1 rfl (by unfold maxLen;omega))
     clear hav
     go_wp2_with fail
     go_region_law
      ((refine step_append_sl _ rfl (.tmp 124) (.tmp 126) 24 rfl IT (.int .i64 0) 1 8 Tryz.underlying24 Tryz.infoInt rfl (by decide) rfl (by exact HSL.out.alloc _) rfl (by exact HX.out) (by intro u hu;simp at hu;subst hu;rfl) (by have:=HLN.out;omega) (by have:=HLN.out;unfold maxLen;omega) ?_;intro v' w6 hs6 hm6 hd6;obtain ⟨d0,d1,d2,d3⟩:=add_end HA5.out ht HAV.out hm6.undrew hd6 hs6 rfl;obtain ⟨A',cap',rfl,g1,g2⟩:=hs6.form))
     all_goals go_wp2
     all_goals go_returns
     all_goals (
      have hg:gainS S t i={S with ents:=S.ents.set i {e with mask:=setB e.mask t},count:=upd S.count t (S.count t+1),added:=upd S.added t (S.added t++ [(i:Int)])}:=by unfold gainS;rw [HE.out]
      refine ⟨i,0,gainS S t i,_,rfl,.joins i e HIX.out HE.out hb hq',?_,(HS2.out.trans HS5.out).trans d3⟩
      rw [hg];exact d2)
 | none=>
   have HIX:=Lib.hid hix
   by_cases hq:S.quota t≤S.count t
   ·go_wp2_with fail
    go_region
    go_wp2_with fail
    go_returns
    exact ⟨0,9,S,R,rfl,.much (fun j e' hj _=>by rw [HIX.out] at hj;cases hj) hq,HA3.out.drew,(HS2.out.trans HS3.out).drew⟩
   ·have hq':S.count t<S.quota t:=by omega
    clear hq
    go_wp2_with fail
    go_region
    clear c4 c5
    have HA4:=Lib.hid HA3.out.drew
    have HS4:=Lib.hid HS3.out.drew
    generalize World.drew _=w4 at HA4 HS4 ⊢
    have c6:=HA4.out.cLive
    have c7:=HA4.out.cRoom
    by_cases hr:S.room≤S.live
    ·go_wp2_with fail
     go_region
     clear c6 c7
     have HA5:=Lib.hid HA4.out.drew
     have HS5:=Lib.hid HS4.out.drew
     generalize World.drew _=w5 at HA5 HS5 ⊢
     go_wp2_with fail
     (with_reducible refine (sweep_any w5 p R S HA5.out HI.out HL.out).mono ?_)
     rintro e w6 ⟨n,S0,R0,rfl,hsw,hA6,hs6⟩
     have HSW:=Lib.hid hsw
     have HA6:=Lib.hid hA6
     have HS6:=Lib.hid (HS5.out.trans hs6)
     obtain ⟨hi0,hl0⟩:=hsw.inv HI.out HL.out
     have HI0:=Lib.hid hi0
     have HL0:=Lib.hid hl0
     clear hsw hA6 hs6 hi0 hl0
     have c6:=HA6.out.cLive
     have c7:=HA6.out.cRoom
     go_wp2_with fail
     by_cases hr0:S0.room≤S0.live
     ·go_region
      go_wp2_with fail
      go_returns
      exact ⟨0,5,S0,R0,rfl,.full S0 n HIX.out hq' hr HSW.out hr0,HA6.out.drew,(HS2.out.trans HS6.out).drew⟩
     ·go_region
      clear c6 c7
      have HA7:=Lib.hid HA6.out.drew
      have HS7:=Lib.hid HS6.out.drew
      generalize World.drew _=w7 at HA7 HS7 ⊢
      have hro:S0.live<S0.room:=by omega
      clear hr0
      have HID0:=Lib.hid (HSW.out.gone HI.out HIX.out)
      have HRO:=Lib.hid hro
      have HSEL:Hid (S.live<S.room∧S0=S∨S.room≤S.live∧∃n,SweepR S S0 n):= .inr ⟨hr,n,HSW.out⟩
      have HLN0:Hid ((S0.added t).length≤1000000):=by
       obtain ⟨Sx,hsx,hsx2⟩:=HSW.out
       show (S0.added t).length≤1000000
       rw [hsx2];show (Sx.added t).length≤1000000
       rw [(hsx.facts HI.out).added];exact HLN.out
      clear hro
      go_wp2_with fail
      (with_reducible refine (take_any w7 p R0 S0 HA7.out HI0.out HL0.out).mono ?_)
      rintro e w8 ⟨i,S1,R1,rfl,htk,hA8,hs8⟩
      obtain ⟨hinw,hez,hi2⟩:=HI0.out.made (va:=va) htk hk HID0.out HLEV.out (by have:=HL0.out;have:=HRO.out;omega)
      have HTK:=Lib.hid htk
      have HA8:=Lib.hid hA8
      have HS8:=Lib.hid (HS7.out.trans hs8)
      have HB8:=Lib.hid (HB2.out.mod HS8.out.mod HNO.out)
      have HIN:=Lib.hid hinw
      have HEZ:=Lib.hid hez
      have HINL:Hid (S1.ents.length≤200002):=by have:=hinw.lenN;unfold newS at this;rw [List.length_set] at this;exact this
      clear htk hA8 hs8 hinw hi2
      obtain ⟨b,off,cap,hlv,hc1,hc2,hc,hfr⟩:=HA8.out.ents (by have:=(List.getElem?_eq_some_iff.1 hez).1;omega)
      have HLV:=Lib.hid hlv
      have c0:=HA8.out.cList
      rw [hlv] at c0
      obtain ⟨⟨d0,d1,d2,d3,d4,d5,d6,d7⟩,f0,f1,f2,f3,f4,f5,f6,f7⟩:=HA8.out.cells8' HLV.out HEZ.out
      have b0:=HB8.out.cellS (i:=0) rfl
      have b1:=HB8.out.cellS (i:=1) rfl
      have b2:=HB8.out.cellS (i:=2) rfl
      have b3:=HB8.out.cellS (i:=3) rfl
      have b4:=HB8.out.cellS (i:=4) rfl
      have hil:(i:Int)<(S1.ents.length:Int):=by have:=(List.getElem?_eq_some_iff.1 hez).1;omega
      have HIL:Hid (i<200002):=by have:=(List.getElem?_eq_some_iff.1 hez).1;have:=HINL.out;have:i<200002:=(by omega);exact this
      clear hc hfr hlv hez hc1
      go_wp2_with fail
      go_region
      obtain ⟨k1,k2⟩:=HA8.out.setEnt (e':=⟨k,lv,va,0⟩) HLV.out HEZ.out (Nat.zero_lt_succ _)
      have HA9:=Lib.hid k1.drew
      have HS9:=Lib.hid (HS8.out.trans k2.drew)
      clear k1 k2 d0 d1 d2 d3 d4 d5 d6 d7 f0 f1 f2 f3 f4 f5 f6 f7 c0 b0 b1 b2 b3 b4
      change Exit.then _ _ _ _ (World.drew (wrote8 w8 b (off+i*8) ⟨k,lv,va,0⟩))
      generalize World.drew _=w9 at HA9 HS9 ⊢
      have HB9:=Lib.hid (HB2.out.mod HS9.out.mod HNO.out)
      have b0:=HB9.out.cellS (i:=0) rfl
      have b1:=HB9.out.cellS (i:=1) rfl
      have b2:=HB9.out.cellS (i:=2) rfl
      have b3:=HB9.out.cellS (i:=3) rfl
      have b4:=HB9.out.cellS (i:=4) rfl
      have c2:=HA9.out.cIdx
      have HKP:=Lib.hid HTK.out.keeps
      obtain ⟨w10,hput,hk10,hm10⟩:=HA9.out.drew.idx.put hk (HKP.out.2.2.1.symm▸HID0.out) (by have:=HKP.out.2.1;have:=HI0.out.part;have:=HI0.out.lenN;unfold maxLen;show S1.size<_;omega) (v:=(i:Int)) ⟨by omega,by have:=HIL.out;omega⟩
      obtain ⟨k1,k2⟩:=HA9.out.drew.reidx hk10 hm10
      have HA10:Hid (ArM w10 p R1 (newS S1 i k lv va)):=k1
      have HS10:=Lib.hid (HS9.out.drew.trans k2)
      unfold KeyA.val at hput
      clear hk10 hm10 k1 k2
      go_wp2_with fail
      go_region
      clear hput b0 b1 b2 b3 b4 c2
      generalize hSn:newS S1 i k lv va=Sn at HA10 HIN
      have HE:Hid (Sn.ents[i]? =some ⟨k,lv,va,0⟩):=by subst hSn;exact set_some HEZ.out
      have HSA:Hid (Sn.added=S0.added):=by subst hSn;exact HKP.out.2.2.2.2.2.1
      have HLV2:Hid (R1.lv= .slice (some ⟨b,off,none⟩) Sn.ents.length cap):=by subst hSn;unfold newS;rw [List.length_set];exact HLV.out
      have HSN:=Lib.hid hSn
      clear hSn
      have c0:=HA10.out.cList
      rw [HLV.out] at c0
      obtain ⟨⟨_,_,_,_,_,_,_,d7⟩,_,_,_,_,_,_,_,f7⟩:=HA10.out.cells8' HLV.out HE.out
      have d7:w10.cell? ⟨b,off+i*8+7,none⟩=some (.int .u64 0):=d7
      have hset:bits .or .u64 0 (IntKind.u64.wrap (2^t))=((setB 0 t:Nat):Int):=set_bits (m:=0) (Nat.zero_lt_succ _) ht
      go_wp2_with fail
      have HM0:Hid (setB 0 t<18446744073709551616):=setB_lt (Nat.zero_lt_succ _) ht
      have HA11:=Lib.hid ((HA10.out.mask (e:=⟨k,lv,va,0⟩) HLV2.out HE.out HM0.out))
      have HS11:=Lib.hid (HS10.out.trans ((Step.set HA10.out (q:=⟨b,off+i*8+7,none⟩) (Own.list HLV2.out) (.int .u64 (setB 0 t:Nat)))))
      clear hset
      generalize World.setCell w10 _ _=w11 at HA11 HS11 ⊢
      clear c0 d7 f7
      have c4:w11.cell? ⟨p,4+t,none⟩=some (.int .i64 (Sn.count t)):=HA11.out.cCount ht
      have f4:=HA11.out.f (4+t)
      have hwc:IntKind.i64.wrap (Sn.count t+1)=Sn.count t+1:=by have:=HIN.out.cnt_le ht;rw [IntKind.wrap_i64];omega
      go_wp2_with fail
      go_region
      have HA12:=Lib.hid ((HA11.out.put (arCells_count R1 _ ht (Sn.count t+1)) rfl rfl rfl rfl rfl).drew)
      have HS12:=Lib.hid (HS11.out.trans ((Step.set HA11.out (q:=⟨p,4+t,none⟩) (.inl rfl) (.int .i64 (Sn.count t+1))).drew))
      generalize World.drew _=w12 at HA12 HS12 ⊢
      clear c4 f4
      have c5:w12.cell? ⟨p,132+t,none⟩=some (R1.av t):=HA12.out.cAdded ht
      have f5:=HA12.out.f (132+t)
      obtain ⟨A,acap,hav,ha1,ha2⟩:=(HA12.out.added t ht).form
      rw [hav] at c5
      have HSL:=Lib.hid (HA12.out.added t ht)
      rw [hav] at HSL
      have hpa:(w12.alloc (.cells #[.int .i64 i] 3)).cell? ⟨p,132+t,none⟩=some (.slice A (Sn.added t).length acap):=(World.cell?_alloc_lt w12 _ ⟨p,132+t,none⟩ HA12.out.blk.lt).trans c5
      have HAV:=Lib.hid hav
      have HX:=Lib.hid (Rd.fresh w12 IT #[.int .i64 i] 1 1 rfl (by unfold maxLen;omega))
      have HLN1:Hid ((Sn.added t).length≤1000000):=by show (Sn.added t).length≤1000000;rw [HSA.out];exact HLN0.out
      clear hav
      go_wp2_with fail
      go_region_law
       ((refine step_append_sl _ rfl (.tmp 124) (.tmp 126) 24 rfl IT (.int .i64 0) 1 8 Tryz.underlying24 Tryz.infoInt rfl (by decide) rfl (by exact HSL.out.alloc _) rfl (by exact HX.out) (by intro u hu;simp at hu;subst hu;rfl) (by have:=HLN1.out;omega) (by have:=HLN1.out;unfold maxLen;omega) ?_;intro v' w6 hs6 hm6 hd6;obtain ⟨d0,d1,d2,d3⟩:=add_end HA12.out ht HAV.out hm6.undrew hd6 hs6 rfl;obtain ⟨A',cap',rfl,g1,g2⟩:=hs6.form))
      all_goals go_wp2
      all_goals go_returns
      all_goals (
       have hg:gainS Sn t i={Sn with ents:=Sn.ents.set i ⟨k,lv,va,setB 0 t⟩,count:=upd Sn.count t (Sn.count t+1),added:=upd Sn.added t (Sn.added t++ [(i:Int)])}:=by unfold gainS;rw [HE.out]
       refine ⟨i,0,gainS (newS S1 i k lv va) t i,_,rfl,.makes S0 S1 i HIX.out hq' HSEL.out HRO.out HTK.out,?_,(HS2.out.trans HS12.out).trans d3⟩
       rw [HSN.out,hg];exact d2)
    ·have hro:S.live<S.room:=by omega
     go_wp2_with fail
     go_region
     clear c6 c7
     have HA5:=Lib.hid HA4.out.drew
     have HS5:=Lib.hid HS4.out.drew
     generalize World.drew _=w5 at HA5 HS5 ⊢
     have c6:=HA5.out.cLive
     have c7:=HA5.out.cRoom
     go_wp2_with fail
     go_region
     clear c6 c7
     obtain ⟨S0,hS0⟩:∃S0,S0=S:=⟨S,rfl⟩
     have HA7:Hid (ArM w5.drew p R S0):=by rw [hS0];exact HA5.out.drew
     have HS7:=Lib.hid HS5.out.drew
     generalize World.drew _=w7 at HA7 HS7 ⊢
     have HI0:Hid (Inv S0):=by rw [hS0];exact HI
     have HL0:Hid (S0.live=S0.size):=by rw [hS0];exact HL
     have HID0:Hid (S0.idx k=none):=by rw [hS0];exact HIX
     have HRO:Hid (S0.live<S0.room):=by show S0.live<S0.room;rw [hS0];exact hro
     have HSEL:Hid (S.live<S.room∧S0=S∨S.room≤S.live∧∃n,SweepR S S0 n):= .inl ⟨hro,hS0⟩
     have HLN0:Hid ((S0.added t).length≤1000000):=by rw [hS0];exact HLN
     clear hS0
     clear hro
     go_wp2_with fail
     (with_reducible refine (take_any w7 p R S0 HA7.out HI0.out HL0.out).mono ?_)
     rintro e w8 ⟨i,S1,R1,rfl,htk,hA8,hs8⟩
     obtain ⟨hinw,hez,hi2⟩:=HI0.out.made (va:=va) htk hk HID0.out HLEV.out (by have:=HL0.out;have:=HRO.out;omega)
     have HTK:=Lib.hid htk
     have HA8:=Lib.hid hA8
     have HS8:=Lib.hid (HS7.out.trans hs8)
     have HB8:=Lib.hid (HB2.out.mod HS8.out.mod HNO.out)
     have HIN:=Lib.hid hinw
     have HEZ:=Lib.hid hez
     have HINL:Hid (S1.ents.length≤200002):=by have:=hinw.lenN;unfold newS at this;rw [List.length_set] at this;exact this
     clear htk hA8 hs8 hinw hi2
     obtain ⟨b,off,cap,hlv,hc1,hc2,hc,hfr⟩:=HA8.out.ents (by have:=(List.getElem?_eq_some_iff.1 hez).1;omega)
     have HLV:=Lib.hid hlv
     have c0:=HA8.out.cList
     rw [hlv] at c0
     obtain ⟨⟨d0,d1,d2,d3,d4,d5,d6,d7⟩,f0,f1,f2,f3,f4,f5,f6,f7⟩:=HA8.out.cells8' HLV.out HEZ.out
     have b0:=HB8.out.cellS (i:=0) rfl
     have b1:=HB8.out.cellS (i:=1) rfl
     have b2:=HB8.out.cellS (i:=2) rfl
     have b3:=HB8.out.cellS (i:=3) rfl
     have b4:=HB8.out.cellS (i:=4) rfl
     have hil:(i:Int)<(S1.ents.length:Int):=by have:=(List.getElem?_eq_some_iff.1 hez).1;omega
     have HIL:Hid (i<200002):=by have:=(List.getElem?_eq_some_iff.1 hez).1;have:=HINL.out;have:i<200002:=(by omega);exact this
     clear hc hfr hlv hez hc1
     go_wp2_with fail
     go_region
     obtain ⟨k1,k2⟩:=HA8.out.setEnt (e':=⟨k,lv,va,0⟩) HLV.out HEZ.out (Nat.zero_lt_succ _)
     have HA9:=Lib.hid k1.drew
     have HS9:=Lib.hid (HS8.out.trans k2.drew)
     clear k1 k2 d0 d1 d2 d3 d4 d5 d6 d7 f0 f1 f2 f3 f4 f5 f6 f7 c0 b0 b1 b2 b3 b4
     change Exit.then _ _ _ _ (World.drew (wrote8 w8 b (off+i*8) ⟨k,lv,va,0⟩))
     generalize World.drew _=w9 at HA9 HS9 ⊢
     have HB9:=Lib.hid (HB2.out.mod HS9.out.mod HNO.out)
     have b0:=HB9.out.cellS (i:=0) rfl
     have b1:=HB9.out.cellS (i:=1) rfl
     have b2:=HB9.out.cellS (i:=2) rfl
     have b3:=HB9.out.cellS (i:=3) rfl
     have b4:=HB9.out.cellS (i:=4) rfl
     have c2:=HA9.out.cIdx
     have HKP:=Lib.hid HTK.out.keeps
     obtain ⟨w10,hput,hk10,hm10⟩:=HA9.out.drew.idx.put hk (HKP.out.2.2.1.symm▸HID0.out) (by have:=HKP.out.2.1;have:=HI0.out.part;have:=HI0.out.lenN;unfold maxLen;show S1.size<_;omega) (v:=(i:Int)) ⟨by omega,by have:=HIL.out;omega⟩
     obtain ⟨k1,k2⟩:=HA9.out.drew.reidx hk10 hm10
     have HA10:Hid (ArM w10 p R1 (newS S1 i k lv va)):=k1
     have HS10:=Lib.hid (HS9.out.drew.trans k2)
     unfold KeyA.val at hput
     clear hk10 hm10 k1 k2
     go_wp2_with fail
     go_region
     clear hput b0 b1 b2 b3 b4 c2
     generalize hSn:newS S1 i k lv va=Sn at HA10 HIN
     have HE:Hid (Sn.ents[i]? =some ⟨k,lv,va,0⟩):=by subst hSn;exact set_some HEZ.out
     have HSA:Hid (Sn.added=S0.added):=by subst hSn;exact HKP.out.2.2.2.2.2.1
     have HLV2:Hid (R1.lv= .slice (some ⟨b,off,none⟩) Sn.ents.length cap):=by subst hSn;unfold newS;rw [List.length_set];exact HLV.out
     have HSN:=Lib.hid hSn
     clear hSn
     have c0:=HA10.out.cList
     rw [HLV.out] at c0
     obtain ⟨⟨_,_,_,_,_,_,_,d7⟩,_,_,_,_,_,_,_,f7⟩:=HA10.out.cells8' HLV.out HE.out
     have d7:w10.cell? ⟨b,off+i*8+7,none⟩=some (.int .u64 0):=d7
     have hset:bits .or .u64 0 (IntKind.u64.wrap (2^t))=((setB 0 t:Nat):Int):=set_bits (m:=0) (Nat.zero_lt_succ _) ht
     go_wp2_with fail
     have HM0:Hid (setB 0 t<18446744073709551616):=setB_lt (Nat.zero_lt_succ _) ht
     have HA11:=Lib.hid ((HA10.out.mask (e:=⟨k,lv,va,0⟩) HLV2.out HE.out HM0.out))
     have HS11:=Lib.hid (HS10.out.trans ((Step.set HA10.out (q:=⟨b,off+i*8+7,none⟩) (Own.list HLV2.out) (.int .u64 (setB 0 t:Nat)))))
     clear hset
     generalize World.setCell w10 _ _=w11 at HA11 HS11 ⊢
     clear c0 d7 f7
     have c4:w11.cell? ⟨p,4+t,none⟩=some (.int .i64 (Sn.count t)):=HA11.out.cCount ht
     have f4:=HA11.out.f (4+t)
     have hwc:IntKind.i64.wrap (Sn.count t+1)=Sn.count t+1:=by have:=HIN.out.cnt_le ht;rw [IntKind.wrap_i64];omega
     go_wp2_with fail
     go_region
     have HA12:=Lib.hid ((HA11.out.put (arCells_count R1 _ ht (Sn.count t+1)) rfl rfl rfl rfl rfl).drew)
     have HS12:=Lib.hid (HS11.out.trans ((Step.set HA11.out (q:=⟨p,4+t,none⟩) (.inl rfl) (.int .i64 (Sn.count t+1))).drew))
     generalize World.drew _=w12 at HA12 HS12 ⊢
     clear c4 f4
     have c5:w12.cell? ⟨p,132+t,none⟩=some (R1.av t):=HA12.out.cAdded ht
     have f5:=HA12.out.f (132+t)
     obtain ⟨A,acap,hav,ha1,ha2⟩:=(HA12.out.added t ht).form
     rw [hav] at c5
     have HSL:=Lib.hid (HA12.out.added t ht)
     rw [hav] at HSL
     have hpa:(w12.alloc (.cells #[.int .i64 i] 3)).cell? ⟨p,132+t,none⟩=some (.slice A (Sn.added t).length acap):=(World.cell?_alloc_lt w12 _ ⟨p,132+t,none⟩ HA12.out.blk.lt).trans c5
     have HAV:=Lib.hid hav
     have HX:=Lib.hid (Rd.fresh w12 IT #[.int .i64 i] 1 1 rfl (by unfold maxLen;omega))
     have HLN1:Hid ((Sn.added t).length≤1000000):=by show (Sn.added t).length≤1000000;rw [HSA.out];exact HLN0.out
     clear hav
     go_wp2_with fail
     go_region_law
      ((refine step_append_sl _ rfl (.tmp 124) (.tmp 126) 24 rfl IT (.int .i64 0) 1 8 Tryz.underlying24 Tryz.infoInt rfl (by decide) rfl (by exact HSL.out.alloc _) rfl (by exact HX.out) (by intro u hu;simp at hu;subst hu;rfl) (by have:=HLN1.out;omega) (by have:=HLN1.out;unfold maxLen;omega) ?_;intro v' w6 hs6 hm6 hd6;obtain ⟨d0,d1,d2,d3⟩:=add_end HA12.out ht HAV.out hm6.undrew hd6 hs6 rfl;obtain ⟨A',cap',rfl,g1,g2⟩:=hs6.form))
     all_goals go_wp2
     all_goals go_returns
     all_goals (
      have hg:gainS Sn t i={Sn with ents:=Sn.ents.set i ⟨k,lv,va,setB 0 t⟩,count:=upd Sn.count t (Sn.count t+1),added:=upd Sn.added t (Sn.added t++ [(i:Int)])}:=by unfold gainS;rw [HE.out]
      refine ⟨i,0,gainS (newS S1 i k lv va) t i,_,rfl,.makes S0 S1 i HIX.out hq' HSEL.out HRO.out HTK.out,?_,(HS2.out.trans HS12.out).trans d3⟩
      rw [HSN.out,hg];exact d2)
end Go.Proofs.YthohnjgnpapnoaaGreatDoor
namespace Go.Proofs.YthohnjgnpapnoaaGreatDoor
open Go.RowKit
def qAt (q0 q1 q2 q3:Int) (j:Nat):Int:=if j=0 then q0 else if j=1 then q1 else if j=2 then q2 else q3
inductive JoinR (S:ArS) (t:Nat) (q0 q1 q2 q3:Int):Int→Int→ArS→Prop
 | none (j:Nat):j<4→ownsB S t (qAt q0 q1 q2 q3 j) 0=false→JoinR S t q0 q1 q2 q3 0 6 S
 | level (j:Nat):(∀j,j<4→ownsB S t (qAt q0 q1 q2 q3 j) 0=true)→j<4→levelOf S (qAt q0 q1 q2 q3 j)≠levelOf S q0∨44≤levelOf S q0→JoinR S t q0 q1 q2 q3 0 8 S
 | gives (r x:Int) (S':ArS):(∀j,j<4→ownsB S t (qAt q0 q1 q2 q3 j) 0=true)→(∀j,j<4→levelOf S (qAt q0 q1 q2 q3 j)=levelOf S q0)→levelOf S q0<44→GiveR S t ⟨0,q0,q1,q2,q3⟩ (levelOf S q0+1) 0 r x S'→JoinR S t q0 q1 q2 q3 r x S'
theorem idx4 (q0 q1 q2 q3:Int) (i:Nat) (hi:i<4) (w:World):(Instr.index 22 (.agg #[.int .i64 q0,.int .i64 q1,.int .i64 q2,.int .i64 q3]) (.int .i64 (i:Int))).run Tryz.prog w= .ok (.int .i64 (qAt q0 q1 q2 q3 i)) w:=by
 rcases (by omega:i=0∨i=1∨i=2∨i=3) with rfl | rfl | rfl | rfl<;>kernel_rfl
theorem own_i64 {S:ArS} (hI:Inv S) {t:Nat} {id kind:Int} (h:ownsB S t id kind=true):i64r id:=by
 obtain ⟨i,e,h1,h2,_⟩:=owns_range hI.len h
 have:=hI.lenN
 exact ⟨by omega,by omega⟩
theorem level_pos {S:ArS} (hI:Inv S) (id:Int):0≤levelOf S id∧levelOf S id≤44:=by
 unfold levelOf
 cases he:S.ents[id.toNat]? with
 | none=>exact ⟨Int.le_refl _,by decide⟩
 | some e=>have:=hI.keys e (List.mem_of_getElem? he);exact ⟨this.2.1,this.2.2.1⟩
def JoinPost (w:World) (p:Nat) (R:ArR) (S:ArS) (t:Nat) (q0 q1 q2 q3:Int) (e:Ending) (w':World):Prop:=
 ∃(r x:Int) (S':ArS) (R':ArR),e= .returned (.tuple #[.int .i64 r,.int .i64 x])∧JoinR S t q0 q1 q2 q3 r x S'∧ArM w' p R' S'∧Step p R R' w w'
set_option maxRecDepth 100000 in
set_option maxHeartbeats 3200000 in
theorem join_any (w:World) (p:Nat) (R:ArR) (S:ArS) (h:ArM w p R S) (hI:Inv S) (hl:S.live=S.size) (t:Nat) (ht:t<64) (hal:(S.added t).length≤1000000) (q0 q1 q2 q3:Int):
 Calls Tryz.prog 68 #[.pointer (some ⟨p,0,none⟩),.int .i64 t,.agg #[.int .i64 q0,.int .i64 q1,.int .i64 q2,.int .i64 q3]] w (JoinPost w p R S t q0 q1 q2 q3):=by
 have H:=Lib.hid h
 have HI:=Lib.hid hI
 have HL:=Lib.hid hl
 have HLN:=Lib.hid hal
 have k4:(t:Int)<64:=by omega
 clear h hI hl hal
 go_enter Tryz.func68,Tryz.ntmps68
 go_wp2_with fail
 (with_reducible refine (tenant_any _ t).mono ?_)
 rintro e wq ⟨rfl,rfl⟩
 rw [decide_eq_true (show 0≤(t:Int)∧(t:Int)<64 by omega)]
 go_wp2_with fail
 generalize hw2:World.alloc _ _=w2
 have HA2:Hid (ArM w2 p R S):=by subst hw2;exact H.out.alloc _
 have HS2:Hid (Step p R R w w2):=by subst hw2;exact (Step.refl p R w).alloc _
 have HB2:Hid (Blk w2 w.heap.size 22 #[.int .i64 q0,.int .i64 q1,.int .i64 q2,.int .i64 q3]):=by subst hw2;exact Blk.new w _ _
 clear hw2
 go_loopw [19] (fun iv wx=>∃i:Nat,iv= .int .i64 i∧i≤4∧(∀j,j<i→ownsB S t (qAt q0 q1 q2 q3 j) 0=true)∧wx=w2) (fun iv _=>4-(intOf iv).toNat)
 case atStart=>exact ⟨0,rfl,Nat.zero_le _,fun j hj=>absurd hj (Nat.not_lt_zero _),rfl⟩
 case round=>
  obtain ⟨i,rfl,hi,ho,rfl⟩:=hrel
  have HO:=Lib.hid ho
  clear ho
  by_cases hi4:i<4
  ·have hq:=fun w=>idx4 q0 q1 q2 q3 i hi4 w
   have HB:=Lib.hid (owns_any wr p R S HA2.out HI.out.len t ht (qAt q0 q1 q2 q3 i) 0)
   have HI4:=Lib.hid hi4
   have hlt:(i:Int)<4:=by omega
   have hwi:=wrap_nat' i (by unfold maxLen;omega)
   clear hi4 hi
   cases hb:ownsB S t (qAt q0 q1 q2 q3 i) 0
   ·rw [hb] at HB
    have HN:=Lib.hid hb
    clear hb
    go_wp2_with fail
    (with_reducible refine HB.out.mono ?_)
    rintro e wq ⟨rfl,rfl⟩
    go_wp2_with fail
    go_returns
    exact ⟨0,6,S,R,rfl,.none _ HI4.out HN.out,HA2.out,HS2.out⟩
   ·rw [hb] at HB
    have HN:=Lib.hid hb
    clear hb
    go_wp2_with fail
    (with_reducible refine HB.out.mono ?_)
    rintro e wq ⟨rfl,rfl⟩
    go_wp2_with fail
    go_roundw
    case rel=>
     refine ⟨i+1,by go_num,HI4.out,fun j hj=>?_,trivial⟩
     rcases Nat.lt_succ_iff_lt_or_eq.1 hj with h | h
     ·exact HO.out j h
     ·rw [h];exact HN.out
    case measure=>simp [intOf];have:=HI4.out;omega
  ·have hi5:i=4:=by omega
   subst hi5
   obtain ⟨i0,e0,hi0,hil0,he0⟩:=owns_range HI.out.len (HO.out 0 (by omega))
   obtain ⟨b,off,cap,hlv,hc1,hc2,hc,hfr⟩:=HA2.out.ents (by have:=HI.out.len;omega)
   have HLV:=Lib.hid hlv
   have c0:=HA2.out.cList
   rw [hlv] at c0
   have hq0:q0=i0:=hi0
   clear hi0
   subst hq0
   have HLE:Hid (e0.level=levelOf S (i0:Int)):=by show e0.level=levelOf S (i0:Int);unfold levelOf;rw [Int.toNat_natCast,he0]
   have c5:wr.cell? ⟨b,off+i0*8+5,none⟩=some (.int .i64 e0.level):=hc i0 e0 5 _ he0 rfl
   rw [HLE.out] at c5
   have b0:=HB2.out.cellS (i:=0) rfl
   have b1:=HB2.out.cellS (i:=1) rfl
   have b2:=HB2.out.cellS (i:=2) rfl
   have b3:=HB2.out.cellS (i:=3) rfl
   have hil:(i0:Int)<(S.ents.length:Int):=by omega
   have HC:=Lib.hid hc
   clear hlv hc hfr hc1 hil0 he0
   go_wp2_with fail
   go_region
   go_wp2_with fail
   clear c0 c5 b0
   have HA3:=Lib.hid HA2.out.drew
   have HS3:=Lib.hid HS2.out.drew
   have HBD:Blk wr.drew w.heap.size 22 #[.int .i64 (i0:Int),.int .i64 q1,.int .i64 q2,.int .i64 q3]:=HB2.out
   generalize World.drew _=w3 at HA3 HS3 HBD ⊢
   have HB3:Hid (Blk w3 w.heap.size 22 #[.int .i64 (i0:Int),.int .i64 q1,.int .i64 q2,.int .i64 q3]):=HBD
   clear HBD
   go_loopw [38] (fun iv wx=>∃i:Nat,iv= .int .i64 i∧i≤4∧(∀j,j<i→levelOf S (qAt (i0:Int) q1 q2 q3 j)=levelOf S (i0:Int)∧levelOf S (i0:Int)<44)∧wx=w3) (fun iv _=>4-(intOf iv).toNat)
   case atStart=>exact ⟨0,rfl,Nat.zero_le _,fun j hj=>absurd hj (Nat.not_lt_zero _),rfl⟩
   case round=>
    obtain ⟨i,rfl,hi,hlo,rfl⟩:=hrel
    have HLO:=Lib.hid hlo
    clear hlo
    by_cases hi4:i<4
    ·have hq:=fun w=>idx4 (i0:Int) q1 q2 q3 i hi4 w
     obtain ⟨i1,e1,hi1,hil1,he1⟩:=owns_range HI.out.len (HO.out i hi4)
     obtain ⟨b,off,cap,hlv,hc1,hc2,hc,hfr⟩:=HA3.out.ents (by have:=HI.out.len;omega)
     have c0:=HA3.out.cList
     rw [hlv] at c0
     have HLE1:Hid (levelOf S (qAt (i0:Int) q1 q2 q3 i)=e1.level):=by show levelOf S (qAt (i0:Int) q1 q2 q3 i)=e1.level;unfold levelOf;rw [hi1,Int.toNat_natCast,he1]
     have c5:wr.cell? ⟨b,off+i1*8+5,none⟩=some (.int .i64 e1.level):=hc i1 e1 5 _ he1 rfl
     have hil':(i1:Int)<(S.ents.length:Int):=by omega
     have HI4:=Lib.hid hi4
     have hlt:(i:Int)<4:=by omega
     have hwi:=wrap_nat' i (by unfold maxLen;omega)
     rw [hi1] at hq
     clear hi4 hi hlv hc hfr hc1 hi1 hil1 he1
     by_cases hd:e1.level=levelOf S (i0:Int)
     ·by_cases h44:levelOf S (i0:Int)<44
      ·have hb1:(e1.level==levelOf S (i0:Int))=true:=by rw [beq_iff_eq];exact hd
       have HD:=Lib.hid hd
       rw [hd] at c5
       clear hd hb1
       go_wp2_with fail
       go_roundw
       case rel=>
        refine ⟨i+1,by go_num,HI4.out,fun j hj=>?_,trivial⟩
        rcases Nat.lt_succ_iff_lt_or_eq.1 hj with h | h
        ·exact HLO.out j h
        ·rw [h];exact ⟨HLE1.out.trans HD.out,h44⟩
       case measure=>simp [intOf];have:=HI4.out;omega
      ·have h44':44≤levelOf S (i0:Int):=by omega
       rw [hd] at c5
       clear hd h44
       go_wp2_with fail
       go_returns
       exact ⟨0,8,S,R,rfl,.level i HO.out HI4.out (.inr h44'),HA3.out,HS3.out⟩
     ·have hd2:(e1.level==levelOf S (i0:Int))=false:=by rw [beq_eq_false_iff_ne];exact hd
      go_wp2_with fail
      go_returns
      exact ⟨0,8,S,R,rfl,.level i HO.out HI4.out (.inl (by rw [HLE1.out];exact hd)),HA3.out,HS3.out⟩
    ·have hi5:i=4:=by omega
     subst hi5
     have HK:Hid (KeyA.ok ⟨0,i0,q1,q2,q3⟩):=⟨⟨by show (-9223372036854775808:Int)≤0;decide,by show (0:Int)≤9223372036854775807;decide⟩,own_i64 HI.out (HO.out 0 (by decide)),own_i64 HI.out (HO.out 1 (by decide)),own_i64 HI.out (HO.out 2 (by decide)),own_i64 HI.out (HO.out 3 (by decide))⟩
     have HLV:Hid (0≤levelOf S (i0:Int)+1∧levelOf S (i0:Int)+1≤44):=⟨by have:=(level_pos HI.out (i0:Int)).1;omega,by have:=(HLO.out 0 (by decide)).2;omega⟩
     have hwl:IntKind.i64.wrap (levelOf S (i0:Int)+1)=levelOf S (i0:Int)+1:=by have:=HLV.out;rw [IntKind.wrap_i64];omega
     have b0:=HB3.out.cellS (i:=0) rfl
     have b1:=HB3.out.cellS (i:=1) rfl
     have b2:=HB3.out.cellS (i:=2) rfl
     have b3:=HB3.out.cellS (i:=3) rfl
     go_wp2_with fail
     have hg:=give_any wr p R S HA3.out HI.out HL.out t ht HLN.out ⟨0,i0,q1,q2,q3⟩ HK.out (levelOf S (i0:Int)+1) 0 HLV.out
     (with_reducible refine hg.mono ?_)
     rintro e w4 ⟨r,x,S',R',rfl,hgr,hA4,hs4⟩
     have HGR:=Lib.hid hgr
     have HA4:=Lib.hid hA4
     have HS4:=Lib.hid (HS3.out.trans hs4)
     clear hg hgr hA4 hs4
     go_wp2_with fail
     go_returns
     exact ⟨r,x,S',R',rfl,.gives r x S' HO.out (fun j hj=>(HLO.out j hj).1) (HLO.out 0 (by decide)).2 HGR.out,HA4.out,HS4.out⟩
end Go.Proofs.YthohnjgnpapnoaaGreatDoor
namespace Go.Proofs.YthohnjgnpapnoaaGreatDoor
open Go.RowKit
structure Less (S S':ArS):Prop where
 live:S'.live=S.live
 size:S'.size=S.size
 room:S'.room=S.room
 quota:S'.quota=S.quota
 count:∀t,S'.count t≤S.count t
 added:S'.added=S.added
theorem Less.refl (S:ArS):Less S S:=⟨rfl,rfl,rfl,rfl,fun _=>Int.le_refl _,rfl⟩
theorem loseS_less (S:ArS) (t i:Nat):Less S (loseS S t i):=by
 unfold loseS
 cases S.ents[i]? with
 | none=>exact Less.refl S
 | some e=>
   simp only
   split
   ·refine ⟨rfl,rfl,rfl,rfl,fun k=>?_,rfl⟩
    show upd S.count t (S.count t-1) k≤S.count k
    by_cases hk:k=t
    ·subst hk;rw [upd_same];omega
    ·rw [upd_ne _ _ hk];exact Int.le_refl _
   ·exact Less.refl S
theorem loseL_less (t:Nat):∀(l:List Int) (S:ArS),Less S (loseL S t l)
 | [],S=>Less.refl S
 | x::l,S=>by
   have h1:=loseS_less S t x.toNat
   have h2:=loseL_less t l (loseS S t x.toNat)
   exact ⟨h2.live.trans h1.live,h2.size.trans h1.size,h2.room.trans h1.room,h2.quota.trans h1.quota,fun k=>Int.le_trans (h2.count k) (h1.count k),h2.added.trans h1.added⟩
theorem mask_bit {m:Nat} (h0:m≠0) (hm:m<18446744073709551616):∃t,t<64∧m.testBit t=true:=by
 obtain ⟨t,ht⟩:=Nat.exists_testBit_of_ne_zero h0
 refine ⟨t,?_,ht⟩
 by_cases h:t<64
 ·exact h
 ·have:m.testBit t=false:=Nat.testBit_lt_two_pow (Nat.lt_of_lt_of_le hm (by
   rw [show 18446744073709551616=2^64 by decide];exact Nat.pow_le_pow_right (by decide) (by omega)))
  rw [this] at ht;cases ht
section
variable {S S' : ArS}
theorem gain_in {t j:Nat} {e:EntD} (he:S.ents[j]? =some e):gainS S t j={S with ents:=S.ents.set j {e with mask:=setB e.mask t},count:=upd S.count t (S.count t+1),added:=upd S.added t (S.added t++ [(j:Int)])}:=by unfold gainS;rw [he]
theorem sweep_keeps (hI:Inv S) {n:Nat} (h:SweepR S S' n):S'.count=S.count∧S'.quota=S.quota∧S'.added=S.added∧S'.room=S.room∧S'.ents.length=S.ents.length:=by
 obtain ⟨S1,h1,rfl⟩:=h
 have hf:=h1.facts hI
 exact ⟨hf.count,hf.quota,hf.added,hf.room,hf.len⟩
end
end Go.Proofs.YthohnjgnpapnoaaGreatDoor
namespace Go.Proofs.YthohnjgnpapnoaaGreatDoor
open Go.RowKit
structure Twin (S S':ArS):Prop where
 idx:S'.idx=S.idx
 ents:∀(j:Nat) e,S.ents[j]? =some e→∃e',S'.ents[j]? =some e'∧e'.key=e.key∧e'.level=e.level∧e'.value=e.value
 back:∀(j:Nat) e',S'.ents[j]? =some e'→∃e,S.ents[j]? =some e∧e'.key=e.key∧e'.level=e.level∧e'.value=e.value
theorem Twin.symm {S S':ArS} (h:Twin S S'):Twin S' S:=
 ⟨h.idx.symm,fun j e he=>by obtain ⟨e',h1,h2,h3,h4⟩:=h.back j e he;exact ⟨e',h1,h2.symm,h3.symm,h4.symm⟩,fun j e he=>by obtain ⟨e',h1,h2,h3,h4⟩:=h.ents j e he;exact ⟨e',h1,h2.symm,h3.symm,h4.symm⟩⟩
theorem Twin.stays {S S':ArS} (h:Twin S S'):Stays (fun _=>True) S S':=fun i e he hx _=>by
 obtain ⟨e',h1,h2,h3,h4⟩:=h.ents i e he
 exact ⟨e',h1,h2,h3,h4,by rw [h.idx];exact hx⟩
theorem Twin.den {S S':ArS} (h:Twin S S') {id:Int} {x:Tree}:Den S' id x↔Den S id x:=⟨Den.stays h.symm.stays,Den.stays h.stays⟩
theorem Twin.denT {S S':ArS} (h:Twin S S') {i:Nat} {x:Thing}:DenT S' i x↔DenT S i x:=⟨DenT.stays h.symm.stays,DenT.stays h.stays⟩
theorem Twin.remask {S:ArS} {i:Nat} {e:EntD} (he:S.ents[i]? =some e) (m:Nat) (c:Nat→Int) (ad:Nat→List Int):Twin S {S with ents:=S.ents.set i {e with mask:=m},count:=c,added:=ad}:=by
 have hi:=(List.getElem?_eq_some_iff.1 he).1
 have hg:∀j,(S.ents.set i {e with mask:=m})[j]? =if j=i then some {e with mask:=m} else S.ents[j]? :=by
  intro j
  by_cases hj:j=i
  ·subst hj;rw [if_pos rfl];exact set_some he
  ·rw [if_neg hj,List.getElem?_set_ne (Ne.symm hj)]
 refine ⟨rfl,fun j e1 h1=>?_,fun j e1 h1=>?_⟩
 ·by_cases hj:j=i
  ·subst hj
   rw [he] at h1;cases h1
   exact ⟨_,(hg j).trans (if_pos rfl),rfl,rfl,rfl⟩
  ·exact ⟨e1,((hg j).trans (if_neg hj)).trans h1,rfl,rfl,rfl⟩
 ·have h1:(S.ents.set i {e with mask:=m})[j]? =some e1:=h1
  rw [hg] at h1
  by_cases hj:j=i
  ·subst hj
   rw [if_pos rfl] at h1;cases h1
   exact ⟨e,he,rfl,rfl,rfl⟩
  ·rw [if_neg hj] at h1;exact ⟨e1,h1,rfl,rfl,rfl⟩
structure Rel (S:ArS) (A:Nat→Abs):Prop where
 inv:Inv S
 live:S.live=S.size
 good:∀(i:Nat) e,S.ents[i]? =some e→S.idx e.key=some (i:Int)→∃x,DenT S i x
 own:∀t,t<64→∀x,x∈(A t).have_↔∃(i:Nat) (e:EntD),S.ents[i]? =some e∧e.mask.testBit t=true∧DenT S i x
 add1:∀t,t<64→∀id∈S.added t,∃(i:Nat) (x:Thing),id=i∧DenT S i x∧x∈(A t).added
 add2:∀t,t<64→∀x∈(A t).added,∃i:Nat,(i:Int)∈S.added t∧DenT S i x
 ok:∀t,t<64→AOk (A t)
theorem nodup_map {α β:Type} {f:α→β}:∀{l:List α},(∀a∈l,∀b∈l,f a=f b→a=b)→l.Nodup→(l.map f).Nodup
 | [],_,_=>List.nodup_nil
 | a::l,h,hn=>by
   rw [List.nodup_cons] at hn
   rw [List.map_cons,List.nodup_cons]
   refine ⟨fun hm=>?_,nodup_map (fun x hx y hy=>h x (List.mem_cons_of_mem _ hx) y (List.mem_cons_of_mem _ hy)) hn.2⟩
   obtain ⟨b,hb,e⟩:=List.mem_map.1 hm
   have:=h b (List.mem_cons_of_mem _ hb) a (List.mem_cons_self ..) e
   subst this
   exact hn.1 hb
section
variable {S S' : ArS} {A : Nat → Abs}
theorem Rel.count (h:Rel S A) {t:Nat} (ht:t<64):S.count t=((A t).have_.length:Int):=by
 rw [h.inv.count t ht]
 unfold bitC
 rw [←range_countP (fun e:EntD=>e.mask.testBit t) S.ents,List.countP_eq_length_filter]
 generalize hL:(List.range S.ents.length).filter _=L
 have hmem:∀i,i∈L↔∃e,S.ents[i]? =some e∧e.mask.testBit t=true:=by
  intro i
  rw [←hL,List.mem_filter,List.mem_range]
  constructor
  ·rintro ⟨h1,h2⟩
   cases he:S.ents[i]? with
   | none=>rw [he] at h2;cases h2
   | some e=>rw [he] at h2;exact ⟨e,rfl,h2⟩
  ·rintro ⟨e,h1,h2⟩
   exact ⟨(List.getElem?_eq_some_iff.1 h1).1,by rw [h1];exact h2⟩
 have hnd:L.Nodup:=by rw [←hL];exact List.Pairwise.filter _ List.nodup_range
 have key1:∀x:Thing,∃i:Nat,x∈(A t).have_→i∈L∧DenT S i x:=by
  intro x
  by_cases hx:x∈(A t).have_
  ·obtain ⟨i,e,h1,h2,h3⟩:=(h.own t ht x).1 hx
   exact ⟨i,fun _=>⟨(hmem i).2 ⟨e,h1,h2⟩,h3⟩⟩
  ·exact ⟨0,fun h=>absurd h hx⟩
 have key2:∀i:Nat,∃x:Thing,i∈L→x∈(A t).have_∧DenT S i x:=by
  intro i
  by_cases hi:i∈L
  ·obtain ⟨e,h1,h2⟩:=(hmem i).1 hi
   obtain ⟨x,hx⟩:=h.good i e h1 (h.inv.own i e h1 (testBit_ne h2)).2
   exact ⟨x,fun _=>⟨(h.own t ht x).2 ⟨i,e,h1,h2,hx⟩,hx⟩⟩
  ·exact ⟨.note .dead 0 0,fun h=>absurd h hi⟩
 obtain ⟨g,hg⟩:=Classical.axiomOfChoice key1
 obtain ⟨f,hf⟩:=Classical.axiomOfChoice key2
 have n1:((A t).have_.map g).Nodup:=nodup_map (fun a ha b hb e=>by
  have h1:=(hg a ha).2
  have h2:=(hg b hb).2
  rw [e] at h1
  exact DenT.fn h.inv h1 h2) (h.ok t ht).nodup
 have n2:(L.map f).Nodup:=nodup_map (fun a ha b hb e=>by
  have h1:=(hf a ha).2
  have h2:=(hf b hb).2
  rw [e] at h1
  exact DenT.inj h1 h2) hnd
 have l1:=List.Nodup.length_le_of_subset n1 (l₂:=L) fun i hi=>by obtain ⟨x,hx,rfl⟩:=List.mem_map.1 hi;exact (hg x hx).1
 have l2:=List.Nodup.length_le_of_subset n2 (l₂:=(A t).have_) fun x hx=>by obtain ⟨i,hi,rfl⟩:=List.mem_map.1 hx;exact (hf i hi).1
 rw [List.length_map] at l1 l2
 have:L.length=(A t).have_.length:=Nat.le_antisymm l2 l1
 rw [this]
def KeyT (S:ArS) (k:KeyA) (lv:Int):Thing→Prop
 | .sq a b c d=>k.kind=0∧lv=a.lvl+1∧Den S k.a0 a∧Den S k.a1 b∧Den S k.a2 c∧Den S k.a3 d
 | .note x r j=>k.kind=1∧k.a1=r∧k.a2=j∧k.a3=0∧Den S k.a0 x
theorem DenT.sqE {i:Nat} {a b c d:Tree} (h:DenT S i (.sq a b c d)):∃e,S.ents[i]? =some e∧S.idx e.key=some (i:Int)∧e.key.kind=0∧e.level=a.lvl+1∧Den S e.key.a0 a∧Den S e.key.a1 b∧Den S e.key.a2 c∧Den S e.key.a3 d:=by
 simp only [DenT,Den] at h
 obtain ⟨j,e,h1,h2,h3,h4,h5,h6⟩:=h
 have:j=i:=by omega
 subst this
 exact ⟨e,h2,h3,h4,h5,h6⟩
theorem KeyT.key {k:KeyA} {lv:Int} {i:Nat}:∀{x:Thing},KeyT S k lv x→DenT S i x→∃e,S.ents[i]? =some e∧e.key=k∧S.idx k=some (i:Int)
 | .sq ..,h,hd=>by
   obtain ⟨e,h2,h3,h4,h5,g0,g1,g2,g3⟩:=hd.sqE
   obtain ⟨k1,k2,k3,k4,k5,k6⟩:=h
   have:e.key=k:=KeyA.ext (h4.trans k1.symm) (Den.inj g0 k3) (Den.inj g1 k4) (Den.inj g2 k5) (Den.inj g3 k6)
   exact ⟨e,h2,this,this▸h3⟩
 | .note ..,h,hd=>by
   obtain ⟨e,h4,h5,h6,h7,h8,h9,h10,_⟩:=hd
   obtain ⟨k1,k2,k3,k4,k5⟩:=h
   have:e.key=k:=KeyA.ext (h6.trans k1.symm) (Den.inj h10 k5) (h7.trans k2.symm) (h8.trans k3.symm) (h9.trans k4.symm)
   exact ⟨e,h4,this,this▸h5⟩
theorem KeyT.of (hI:Inv S) {k:KeyA} {lv:Int} {i:Nat} {e:EntD} (he:S.ents[i]? =some e) (hk:e.key=k):∀{x y:Thing},KeyT S k lv x→DenT S i y→y=x
 | .sq ..,.sq ..,h,hd=>by
   obtain ⟨e',h2,h3,h4,h5,g0,g1,g2,g3⟩:=hd.sqE
   rw [he] at h2;cases h2
   obtain ⟨k1,k2,k3,k4,k5,k6⟩:=h
   subst hk
   rw [Den.fn hI g0 k3,Den.fn hI g1 k4,Den.fn hI g2 k5,Den.fn hI g3 k6]
 | .sq ..,.note ..,h,hd=>by
   obtain ⟨e',h4,h5,h6,_⟩:=hd
   rw [he] at h4;cases h4
   obtain ⟨k1,_⟩:=h
   subst hk;omega
 | .note ..,.sq ..,h,hd=>by
   obtain ⟨e',h2,h3,h4,_⟩:=hd.sqE
   rw [he] at h2;cases h2
   obtain ⟨k1,_⟩:=h
   subst hk;omega
 | .note ..,.note ..,h,hd=>by
   obtain ⟨e',h4,h5,h6,h7,h8,h9,h10,_⟩:=hd
   rw [he] at h4;cases h4
   obtain ⟨k1,k2,k3,k4,k5⟩:=h
   subst hk
   rw [Den.fn hI h10 k5,←h7,←h8,k2,k3]
def aGive (A:Abs) (q:Int) (x:Thing):Int×Abs:=
 if x∈A.have_ then (0,A) else if q≤(A.have_.length:Int) then (9,A) else (0,⟨A.have_++ [x],A.added++ [x]⟩)
theorem AOk.give {B:Abs} (h:AOk B) {x:Thing} (hx:x∉B.have_) (hk:kidsIn B.have_ x):AOk ⟨B.have_++ [x],B.added++ [x]⟩:=by
 have hr:restL ⟨B.have_++ [x],B.added++ [x]⟩=restL B:=by
  unfold restL
  simp only
  rw [List.filter_append]
  have e1: [x].filter (fun y=> !decide (y∈B.added++ [x]))= []:=by simp
  rw [e1,List.append_nil]
  refine List.filter_congr fun y hy=>?_
  have hyx:y≠x:=fun e=>hx (e▸hy)
  simp [hyx]
 refine ⟨?_,fun y hy=>?_,?_,fun y hy=>?_⟩
 ·refine List.nodup_append.2 ⟨h.nodup,by simp,fun a ha b hb=>?_⟩
  rw [List.mem_singleton] at hb
  subst hb
  rintro rfl
  exact hx ha
 ·have hm:∀y∈B.have_,y∈B.have_++ [x]:=fun y hy=>List.mem_append_left _ hy
  rcases List.mem_append.1 hy with h1 | h1
  ·exact kidsIn.mono hm (h.closed y h1)
  ·rw [List.mem_singleton.1 h1];exact kidsIn.mono hm hk
 ·rw [hr];exact h.rest
 ·rcases List.mem_append.1 hy with h1 | h1
  ·exact List.mem_append_left _ (h.added y h1)
  ·exact List.mem_append_right _ h1
theorem Rel.gain (h:Rel S A) {t:Nat} (ht:t<64) {i:Nat} {e:EntD} {x:Thing} (he:S.ents[i]? =some e) (hb:e.mask.testBit t=false) (hx:S.idx e.key=some (i:Int)) (hd:DenT S i x) (hk:kidsIn (A t).have_ x):
 x∉(A t).have_∧Twin S (gainS S t i)∧Rel (gainS S t i) (upd A t ⟨(A t).have_++ [x],(A t).added++ [x]⟩):=by
 have h2:=h.inv.two hx
 have hno:x∉(A t).have_:=fun hm=>by
  obtain ⟨j,e',h3,h4,h5⟩:=(h.own t ht x).1 hm
  have:=DenT.inj hd h5
  subst this
  rw [he] at h3;cases h3
  rw [hb] at h4;cases h4
 have hI:=h.inv.gain ht he hb h2 hx
 rw [gain_in he] at hI ⊢
 have tw:Twin S {S with ents:=S.ents.set i {e with mask:=setB e.mask t},count:=upd S.count t (S.count t+1),added:=upd S.added t (S.added t++ [(i:Int)])}:=Twin.remask he _ _ _
 have hi:=(List.getElem?_eq_some_iff.1 he).1
 have hg:∀j,(S.ents.set i {e with mask:=setB e.mask t})[j]? =if j=i then some {e with mask:=setB e.mask t} else S.ents[j]? :=by
  intro j
  by_cases hj:j=i
  ·subst hj;rw [if_pos rfl];exact set_some he
  ·rw [if_neg hj,List.getElem?_set_ne (Ne.symm hj)]
 refine ⟨hno,tw,hI,h.live,fun j e' h3 h4=>?_,fun u hu y=>?_,fun u hu id hid=>?_,fun u hu y hy=>?_,fun u hu=>?_⟩
 ·obtain ⟨e1,g1,g2,g3,g4⟩:=tw.back j e' h3
  obtain ⟨y,hy⟩:=h.good j e1 g1 (by rw [←g2];exact h4)
  exact ⟨y,tw.denT.2 hy⟩
 ·constructor
  ·intro hy
   by_cases hut:u=t
   ·subst hut
    rw [upd_same] at hy
    rcases List.mem_append.1 hy with h3 | h3
    ·obtain ⟨j,e1,g1,g2,g3⟩:=(h.own u hu y).1 h3
     by_cases hj:j=i
     ·subst hj
      rw [he] at g1;cases g1
      rw [hb] at g2;cases g2
     ·exact ⟨j,e1,((hg j).trans (if_neg hj)).trans g1,g2,tw.denT.2 g3⟩
    ·rw [List.mem_singleton.1 h3]
     exact ⟨i,_,(hg i).trans (if_pos rfl),by simp [setB_bit],tw.denT.2 hd⟩
   ·rw [upd_ne _ _ hut] at hy
    obtain ⟨j,e1,g1,g2,g3⟩:=(h.own u hu y).1 hy
    by_cases hj:j=i
    ·subst hj
     rw [he] at g1;cases g1
     exact ⟨j,_,(hg j).trans (if_pos rfl),by rw [setB_bit,g2];rfl,tw.denT.2 g3⟩
    ·exact ⟨j,e1,((hg j).trans (if_neg hj)).trans g1,g2,tw.denT.2 g3⟩
  ·rintro ⟨j,e1,g1,g2,g3⟩
   have g5:=tw.denT.1 g3
   have g1:(S.ents.set i {e with mask:=setB e.mask t})[j]? =some e1:=g1
   rw [hg] at g1
   by_cases hj:j=i
   ·subst hj
    rw [if_pos rfl] at g1;cases g1
    have g2:(setB e.mask t).testBit u=true:=g2
    rw [setB_bit] at g2
    by_cases hut:u=t
    ·subst hut
     rw [upd_same,DenT.fn h.inv g5 hd]
     exact List.mem_append_right _ (List.mem_singleton.2 rfl)
    ·rw [upd_ne _ _ hut]
     have:e.mask.testBit u=true:=by simpa [Ne.symm hut] using g2
     exact (h.own u hu y).2 ⟨j,e,he,this,g5⟩
   ·rw [if_neg hj] at g1
    have hm:=(h.own u hu y).2 ⟨j,e1,g1,g2,g5⟩
    by_cases hut:u=t
    ·subst hut;rw [upd_same];exact List.mem_append_left _ hm
    ·rw [upd_ne _ _ hut];exact hm
 ·by_cases hut:u=t
  ·subst hut
   have hid:id∈upd S.added u (S.added u++ [(i:Int)]) u:=hid
   rw [upd_same] at hid ⊢
   rcases List.mem_append.1 hid with h3 | h3
   ·obtain ⟨j,y,g1,g2,g3⟩:=h.add1 u hu id h3
    exact ⟨j,y,g1,tw.denT.2 g2,List.mem_append_left _ g3⟩
   ·exact ⟨i,x,List.mem_singleton.1 h3,tw.denT.2 hd,List.mem_append_right _ (List.mem_singleton.2 rfl)⟩
  ·have hid:id∈upd S.added t (S.added t++ [(i:Int)]) u:=hid
   rw [upd_ne _ _ hut] at hid ⊢
   obtain ⟨j,y,g1,g2,g3⟩:=h.add1 u hu id hid
   exact ⟨j,y,g1,tw.denT.2 g2,g3⟩
 ·show ∃j:Nat,(j:Int)∈upd S.added t (S.added t++ [(i:Int)]) u∧_
  by_cases hut:u=t
  ·subst hut
   rw [upd_same] at hy ⊢
   rcases List.mem_append.1 hy with h3 | h3
   ·obtain ⟨j,g1,g2⟩:=h.add2 u hu y h3
    exact ⟨j,List.mem_append_left _ g1,tw.denT.2 g2⟩
   ·rw [List.mem_singleton.1 h3]
    exact ⟨i,List.mem_append_right _ (List.mem_singleton.2 rfl),tw.denT.2 hd⟩
  ·rw [upd_ne _ _ hut] at hy ⊢
   obtain ⟨j,g1,g2⟩:=h.add2 u hu y hy
   exact ⟨j,g1,tw.denT.2 g2⟩
 ·by_cases hut:u=t
  ·subst hut;rw [upd_same];exact (h.ok u hu).give hno hk
  ·rw [upd_ne _ _ hut];exact h.ok u hu
end
end Go.Proofs.YthohnjgnpapnoaaGreatDoor
