/- hall: drop. · hall: what a new universe comes of. -/
import Derived.Test.YthohnjgnpapnoaaGreatDoorR29
import Derived.Test.YthohnjgnpapnoaaGreatDoorR28
import Derived.Test.YthohnjgnpapnoaaGreatDoorR3
import Derived.Deep.RegionLaw
set_option linter.unusedVariables false
set_option linter.unusedSimpArgs false
namespace Go.Proofs.YthohnjgnpapnoaaGreatDoor
open Go.RowKit
theorem slot1 (w:World) {w0:World} (hw:w.alloc (.cells (anC (An.zero 0) (.slice none 0 0)) 57)=w0):Slot w w0 w.heap.size∧Blk w0 w.heap.size 57 (anC (An.zero 0) (.slice none 0 0)):=by
 subst hw
 have h1:=Blk.new w 57 (anC (An.zero 0) (.slice none 0 0))
 exact ⟨⟨(Below.refl _ _).alloc (Nat.le_refl _) _,Nat.le_refl _,h1.lt⟩,h1⟩
theorem own7 {a b c d:Prop} (h:a∧b∧c∧d):a∧b∧c:=⟨h.1,h.2.1,h.2.2.1⟩
def DropF (H:HS) (name:List UInt8) (x:Int) (H':HS):Prop:=idxF H.Ws name=none∧x=6∧H'=H
def DropG (H:HS) (name:List UInt8) (a:An) (H':HS):Prop:=∃i,idxF H.Ws name=some i∧a=An.zero 0∧H'={H with Ws:=H.Ws.eraseIdx i,K:=without (str name) H.K}
set_option maxRecDepth 100000 in
set_option maxHeartbeats 3200000 in
theorem drop_any (w:World) (h p:Nat) (R:ArR) (H:HS) (t:Nat) (d:Int) (wv kv:Value) (HH:Hl w h p R H.S H.A t d H.Ws wv H.ser H.K kv) (name:List UInt8):
 Calls Tryz.prog 75 #[.pointer (some ⟨h,0,none⟩),.string (str name)] w (TryP w h p R H t d wv kv (DropF H name) (DropG H name)):=by
 obtain ⟨wA,wcap,hwv,hwc1,hwc2⟩:=HH.ws.form
 subst hwv
 have HL:=Lib.hid HH
 have hl16:=HH.len
 clear HH
 unfold maxLen at hwc2
 have HLA:=Lib.hid (HL.out.below ((Below.refl _ _).alloc (Nat.le_refl _) (.cells (anC (An.zero 0) (.slice none 0 0)) 57)))
 go_enter Tryz.func75,Tryz.ntmps75
 go_upto_region 1 with fail
 generalize hw0:World.alloc w _=w0
 obtain ⟨s1,n0⟩:=slot1 w (w0:=w0) hw0
 have HSL:=Lib.hid s1
 have HN0:=Lib.hid n0
 have HL0:=Lib.hid (HL.out.below s1.bel)
 have HS0:Hid (HStep h p R (.slice wA H.Ws.length wcap) kv R (.slice wA H.Ws.length wcap) kv w0 w0):=HStep.refl _ _ _ _ _ _
 clear hw0 s1 n0 HLA
 have c3:w0.cell? ⟨h,3,none⟩=some (.slice wA H.Ws.length wcap):=HL0.out.blk.cellS rfl
 go_wp2_with fail
 clear c3
 go_loopw [13] (fun iv wx=>∃i:Nat,iv= .int .i64 i∧i≤H.Ws.length∧(∀j,j<i→∀y,H.Ws[j]? =some y→y.name≠name)∧Below w0.heap.size w0 wx) (fun iv _=>H.Ws.length-(intOf iv).toNat)
 case atStart=>exact ⟨0,rfl,Nat.zero_le _,fun j hj=>absurd hj (Nat.not_lt_zero _),Below.refl _ _⟩
 case round=>
  obtain ⟨i,rfl,hi,hno,hb⟩:=hrel
  have HNO:=Lib.hid hno
  have HL1:=Lib.hid (HL0.out.below hb)
  have HS1:=Lib.hid (HS0.out.below hb)
  have HB1:=Lib.hid hb
  have HN1:=Lib.hid (HSL.out.keep HL.out HS1.out HN0.out)
  clear hno hb
  by_cases hlt:i<H.Ws.length
  ·obtain ⟨x,hx⟩:∃x,H.Ws[i]? =some x:=⟨_,List.getElem?_eq_getElem (by omega)⟩
   have HX:=Lib.hid hx
   obtain ⟨b,off,cap,hv,_,_,d0,d1,d2,d3⟩:=ws_cells HL1.out.ws hx
   injection hv with hv _ hcap
   subst hv
   subst hcap
   have hne:=name_eq x.name name
   have hib:(i:Int)<(H.Ws.length:Int):=by omega
   have hwi:IntKind.i64.wrap ((i:Int)+1)=(i:Int)+1:=by rw [IntKind.wrap_i64];omega
   clear hx
   by_cases hq:x.name=name
   ·have HQ:=Lib.hid hq
    rw [decide_eq_true hq] at hne
    clear hq
    go_wp2_with fail
    generalize hw2:World.alloc wr _=w2
    have hb2:Below wr.heap.size wr w2:=by subst hw2;exact (Below.refl _ _).alloc (Nat.le_refl _) _
    have HL2:=Lib.hid (HL1.out.below hb2)
    have HS2:=Lib.hid (HS1.out.below hb2)
    have HLT:=Lib.hid hlt
    have c3:w2.cell? ⟨h,3,none⟩=some (.slice (some ⟨b,off,none⟩) H.Ws.length wcap):=HL2.out.blk.cellS rfl
    have f3:=HL2.out.blk.frozen 3
    have HPR:Hid (Sl w2 137 4 (.slice (some ⟨b,off,none⟩) i i) i (wdsV (H.Ws.take i))):=Lib.hid (by rw [←wdsV_take];exact HL2.out.ws.pre (by omega))
    have HIX:Hid (idxF H.Ws name=some i):=Lib.hid (idx_found HNO.out HX.out HQ.out)
    have ht1:((i:Int)+1).toNat=i+1:=by omega
    have ht0:((i:Int)).toNat=i:=by omega
    have hic:i≤wcap:=by omega
    have hin:i+1≤H.Ws.length:=by omega
    have hin':(i:Int)+1≤(H.Ws.length:Int):=by omega
    have hi0:(0:Int)≤(i:Int)+1:=by omega
    clear hw2 hb2 d0 d1 d2 d3 hne HNO HX HQ
    have hii:(i:Int)≤(i:Int)+1:=by omega
    go_cut [] (fun wx=>∃A7 cap7,Hl wx h p R H.S H.A t d (H.Ws.eraseIdx i) (.slice A7 (i+(H.Ws.length-(i+1))) cap7) H.ser H.K kv∧HStep h p R (.slice (some ⟨b,off,none⟩) H.Ws.length wcap) kv R (.slice A7 (i+(H.Ws.length-(i+1))) cap7) kv w0 wx)
    case first=>
     by_cases hcp:wcap=i+1
     ·have hln:H.Ws.length=i+1:=by omega
      have hcpT:(wcap=i+1)=True:=eq_true hcp
      have HSF:Hid (Rd w2 w2.heap.size 4 (.slice (some ⟨b,off,none⟩) (H.Ws.length-(i+1)) (wcap-(i+1))) (H.Ws.length-(i+1)) (wdsV (H.Ws.drop (i+1)))):=Lib.hid (by
       have hd:H.Ws.drop (i+1)= []:=List.drop_of_length_le (by omega)
       rw [hd]
       exact ⟨by rw [hln];simp [wdsV],_,_,rfl,by omega,by unfold maxLen;omega,fun hq=>by omega⟩)
      clear hcp hln
      go_region_law (first | (refine step_append_sl _ rfl (.tmp 29) (.tmp 36) 99 rfl 137 (.agg #[.string ⟨#[]⟩,.int .i64 0,.int .i64 0,.int .i64 0]) 4 40 Tryz.underlying99 Tryz.infoWorld rfl (by decide) rfl (by exact HPR.out) rfl (by exact HSF.out) wdsV_one (by omega) (by unfold maxLen;omega) ?_;intro v6 w6 hs6 hm6 hd6;obtain ⟨m1,m2,m3,m4⟩:=Hl.less HL2.out HLT.out rfl hs6 hm6.undrew hd6;obtain ⟨A6,cap6,rfl,_,_⟩:=hs6.form;clear hs6 hm6 hd6))
      all_goals (first | go_meet | (go_wp2_with fail;go_meet))
      all_goals exact ⟨_,_,m3,HS2.out.trans m4⟩
     ·have HSF:Hid (Rd w2 w2.heap.size 4 (.slice (some ⟨b,off+(i+1)*4,none⟩) (H.Ws.length-(i+1)) (wcap-(i+1))) (H.Ws.length-(i+1)) (wdsV (H.Ws.drop (i+1)))):=Lib.hid (HL2.out.ws.rd.suf (by omega))
      go_region_law (first | (refine step_append_sl _ rfl (.tmp 29) (.tmp 36) 99 rfl 137 (.agg #[.string ⟨#[]⟩,.int .i64 0,.int .i64 0,.int .i64 0]) 4 40 Tryz.underlying99 Tryz.infoWorld rfl (by decide) rfl (by exact HPR.out) rfl (by exact HSF.out) wdsV_one (by omega) (by unfold maxLen;omega) ?_;intro v6 w6 hs6 hm6 hd6;obtain ⟨m1,m2,m3,m4⟩:=Hl.less HL2.out HLT.out rfl hs6 hm6.undrew hd6;obtain ⟨A6,cap6,rfl,_,_⟩:=hs6.form;clear hs6 hm6 hd6))
      all_goals (first | go_meet | (go_wp2_with fail;go_meet))
      all_goals exact ⟨_,_,m3,HS2.out.trans m4⟩
    case rest=>
     obtain ⟨A7,cap7,hl7,hs7⟩:=hcut
     have HL7:=Lib.hid hl7
     have HS7:=Lib.hid hs7
     have c4:wc.cell? ⟨h,4,none⟩=some (.int .i64 H.ser):=HL7.out.blk.cellS rfl
     have c5:wc.cell? ⟨h,5,none⟩=some kv:=HL7.out.blk.cellS rfl
     have HRV:=Lib.hid (revoke_any wc H.ser H.K.length HL7.out.klen H.K rfl kv wc.heap.size (Nat.le_refl _) HL7.out.ks (str name))
     clear hl7 hs7 c3 f3
     go_wp2_with fail
     (with_reducible refine HRV.out.mono ?_)
     rintro e w8 ⟨v,rfl,hv,hb8,hf8⟩
     have HL8:=Lib.hid (HL7.out.below hb8)
     have HS8:=Lib.hid (HS7.out.below hb8)
     obtain ⟨kA,kcap,hkv,_,_⟩:=hv.form
     subst hkv
     have HKY:=Lib.hid (HL8.out.keys (ser':=H.ser) (K':=without (str name) H.K) hv (fun b hb=>⟨(hf8 b hb).2,(own7 (HL7.out.new (hf8 b hb).1)).1,(own7 (HL7.out.new (hf8 b hb).1)).2.1,(own7 (HL7.out.new (hf8 b hb).1)).2.2⟩) (Nat.le_trans (without_len _ _) HL8.out.klen))
     have HS9:Hid (HStep h p R (.slice (some ⟨b,off,none⟩) H.Ws.length wcap) kv R (.slice A7 (i+(H.Ws.length-(i+1))) cap7) (.slice kA (without (str name) H.K).length kcap) w0 ((w8.setCell ⟨h,4,none⟩ (.int .i64 (H.ser:Int))).setCell ⟨h,5,none⟩ (.slice kA (without (str name) H.K).length kcap))):=Lib.hid ⟨HS8.out.mod.trans HKY.out.2 fun b _ e=> .inr (.inl e),HS8.out.own,HS8.out.nw,fun b hb=> .inr (Nat.le_trans HS7.out.mod.size (hf8 b hb).1)⟩
     have t4:w8.cell? ⟨h,4,none⟩=some (.int .i64 H.ser):=HL8.out.blk.cellS rfl
     have t5:w8.cell? ⟨h,5,none⟩=some kv:=HL8.out.blk.cellS rfl
     have g4:=HL8.out.blk.frozen 4
     have g5:=HL8.out.blk.frozen 5
     have HN9:=Lib.hid (HSL.out.keep HL.out HS9.out HN0.out)
     clear hv hb8 hf8 c4 c5
     have zb:=HN9.out
     have z0:((w8.setCell ⟨h,4,none⟩ (.int .i64 (H.ser:Int))).setCell ⟨h,5,none⟩ (.slice kA (without (str name) H.K).length kcap)).cell? ⟨w.heap.size,0,none⟩=some (.int .i64 0):=zb.cellS rfl
     have z1:((w8.setCell ⟨h,4,none⟩ (.int .i64 (H.ser:Int))).setCell ⟨h,5,none⟩ (.slice kA (without (str name) H.K).length kcap)).cell? ⟨w.heap.size,1,none⟩=some (.int .i64 0):=zb.cellS rfl
     have z2:((w8.setCell ⟨h,4,none⟩ (.int .i64 (H.ser:Int))).setCell ⟨h,5,none⟩ (.slice kA (without (str name) H.K).length kcap)).cell? ⟨w.heap.size,2,none⟩=some (.int .i64 0):=zb.cellS rfl
     have z3:((w8.setCell ⟨h,4,none⟩ (.int .i64 (H.ser:Int))).setCell ⟨h,5,none⟩ (.slice kA (without (str name) H.K).length kcap)).cell? ⟨w.heap.size,3,none⟩=some (.int .i64 0):=zb.cellS rfl
     have z4:((w8.setCell ⟨h,4,none⟩ (.int .i64 (H.ser:Int))).setCell ⟨h,5,none⟩ (.slice kA (without (str name) H.K).length kcap)).cell? ⟨w.heap.size,4,none⟩=some (.int .i64 0):=zb.cellS rfl
     have z5:((w8.setCell ⟨h,4,none⟩ (.int .i64 (H.ser:Int))).setCell ⟨h,5,none⟩ (.slice kA (without (str name) H.K).length kcap)).cell? ⟨w.heap.size,5,none⟩=some (.int .i64 0):=zb.cellS rfl
     have z6:((w8.setCell ⟨h,4,none⟩ (.int .i64 (H.ser:Int))).setCell ⟨h,5,none⟩ (.slice kA (without (str name) H.K).length kcap)).cell? ⟨w.heap.size,6,none⟩=some (.int .i64 0):=zb.cellS rfl
     have z7:((w8.setCell ⟨h,4,none⟩ (.int .i64 (H.ser:Int))).setCell ⟨h,5,none⟩ (.slice kA (without (str name) H.K).length kcap)).cell? ⟨w.heap.size,7,none⟩=some (.int .i64 0):=zb.cellS rfl
     have z8:((w8.setCell ⟨h,4,none⟩ (.int .i64 (H.ser:Int))).setCell ⟨h,5,none⟩ (.slice kA (without (str name) H.K).length kcap)).cell? ⟨w.heap.size,8,none⟩=some (.string ⟨#[]⟩):=zb.cellS rfl
     have z9:((w8.setCell ⟨h,4,none⟩ (.int .i64 (H.ser:Int))).setCell ⟨h,5,none⟩ (.slice kA (without (str name) H.K).length kcap)).cell? ⟨w.heap.size,9,none⟩=some (.slice none 0 0):=zb.cellS rfl
     have zf0:=zb.frozen 0
     have zf1:=zb.frozen 1
     have zf2:=zb.frozen 2
     have zf3:=zb.frozen 3
     have zf4:=zb.frozen 4
     have zf5:=zb.frozen 5
     have zf6:=zb.frozen 6
     have zf7:=zb.frozen 7
     have zf8:=zb.frozen 8
     have zf9:=zb.frozen 9
     go_wp2_with fail
     have hbm:Blk ((((((((((((w8.setCell ⟨h,4,none⟩ (.int .i64 (H.ser:Int))).setCell ⟨h,5,none⟩ (.slice kA (without (str name) H.K).length kcap)).setCell ⟨w.heap.size,0,none⟩ (.int .i64 0)).setCell ⟨w.heap.size,1,none⟩ (.int .i64 0)).setCell ⟨w.heap.size,2,none⟩ (.int .i64 0)).setCell ⟨w.heap.size,3,none⟩ (.int .i64 0)).setCell ⟨w.heap.size,4,none⟩ (.int .i64 0)).setCell ⟨w.heap.size,5,none⟩ (.int .i64 0)).setCell ⟨w.heap.size,6,none⟩ (.int .i64 0)).setCell ⟨w.heap.size,7,none⟩ (.int .i64 0)).setCell ⟨w.heap.size,8,none⟩ (.string ⟨#[]⟩)).setCell ⟨w.heap.size,9,none⟩ (.slice none 0 0)) (w.heap.size) 57 (anC (An.zero 0) (.slice none 0 0))∧Mod (fun b=>b=w.heap.size) ((w8.setCell ⟨h,4,none⟩ (.int .i64 (H.ser:Int))).setCell ⟨h,5,none⟩ (.slice kA (without (str name) H.K).length kcap)) ((((((((((((w8.setCell ⟨h,4,none⟩ (.int .i64 (H.ser:Int))).setCell ⟨h,5,none⟩ (.slice kA (without (str name) H.K).length kcap)).setCell ⟨w.heap.size,0,none⟩ (.int .i64 0)).setCell ⟨w.heap.size,1,none⟩ (.int .i64 0)).setCell ⟨w.heap.size,2,none⟩ (.int .i64 0)).setCell ⟨w.heap.size,3,none⟩ (.int .i64 0)).setCell ⟨w.heap.size,4,none⟩ (.int .i64 0)).setCell ⟨w.heap.size,5,none⟩ (.int .i64 0)).setCell ⟨w.heap.size,6,none⟩ (.int .i64 0)).setCell ⟨w.heap.size,7,none⟩ (.int .i64 0)).setCell ⟨w.heap.size,8,none⟩ (.string ⟨#[]⟩)).setCell ⟨w.heap.size,9,none⟩ (.slice none 0 0)):=an_stored HN9.out (An.zero 0) (.slice none 0 0)
     obtain ⟨hbk,hmd⟩:=hbm
     generalize hWW:World.setCell _ _ _=WW at hbk hmd ⊢
     have k0:WW.cell? ⟨w.heap.size,0,none⟩=some (.int .i64 0):=hbk.cellS rfl
     have k1:WW.cell? ⟨w.heap.size,1,none⟩=some (.int .i64 0):=hbk.cellS rfl
     have k2:WW.cell? ⟨w.heap.size,2,none⟩=some (.int .i64 0):=hbk.cellS rfl
     have k3:WW.cell? ⟨w.heap.size,3,none⟩=some (.int .i64 0):=hbk.cellS rfl
     have k4:WW.cell? ⟨w.heap.size,4,none⟩=some (.int .i64 0):=hbk.cellS rfl
     have k5:WW.cell? ⟨w.heap.size,5,none⟩=some (.int .i64 0):=hbk.cellS rfl
     have k6:WW.cell? ⟨w.heap.size,6,none⟩=some (.int .i64 0):=hbk.cellS rfl
     have k7:WW.cell? ⟨w.heap.size,7,none⟩=some (.int .i64 0):=hbk.cellS rfl
     have k8:WW.cell? ⟨w.heap.size,8,none⟩=some (.string ⟨#[]⟩):=hbk.cellS rfl
     have k9:WW.cell? ⟨w.heap.size,9,none⟩=some (.slice none 0 0):=hbk.cellS rfl
     clear hWW hbk
     refine bodyPost_ret (v:= .tuple #[ansV (An.zero 0) (.slice none 0 0),.int .i64 0]) (by simp [results,Tryz.results75,go_sem,ansV,An.zero,k0,k1,k2,k3,k4,k5,k6,k7,k8,k9,str]) rfl ?_
     exact try_ok (H':={H with Ws:=H.Ws.eraseIdx i,K:=without (str name) H.K}) HSL.out HL.out HS9.out HKY.out.1 (Oth.refl _ _ _) rfl ⟨i,HIX.out,rfl,rfl⟩ (rd_none _) new_none hmd
   ·have HQ:=Lib.hid hq
    rw [decide_eq_false hq] at hne
    clear hq
    go_wp2_with fail
    refine ⟨⟨i+1,by go_num,hlt,idx_skip HNO.out HX.out HQ.out,HB1.out.alloc HB1.out.size _⟩,?_⟩
    simp [intOf];omega
  ·have hge:(H.Ws.length:Int)≤(i:Int):=by omega
   have HF:Hid (DropF H name 6 H):=Lib.hid ⟨idx_none fun j hj=>HNO.out j (by omega),rfl,rfl⟩
   clear hlt hi HNO
   have zb:=HN1.out
   have z0:wr.cell? ⟨w.heap.size,0,none⟩=some (.int .i64 0):=zb.cellS rfl
   have z1:wr.cell? ⟨w.heap.size,1,none⟩=some (.int .i64 0):=zb.cellS rfl
   have z2:wr.cell? ⟨w.heap.size,2,none⟩=some (.int .i64 0):=zb.cellS rfl
   have z3:wr.cell? ⟨w.heap.size,3,none⟩=some (.int .i64 0):=zb.cellS rfl
   have z4:wr.cell? ⟨w.heap.size,4,none⟩=some (.int .i64 0):=zb.cellS rfl
   have z5:wr.cell? ⟨w.heap.size,5,none⟩=some (.int .i64 0):=zb.cellS rfl
   have z6:wr.cell? ⟨w.heap.size,6,none⟩=some (.int .i64 0):=zb.cellS rfl
   have z7:wr.cell? ⟨w.heap.size,7,none⟩=some (.int .i64 0):=zb.cellS rfl
   have z8:wr.cell? ⟨w.heap.size,8,none⟩=some (.string ⟨#[]⟩):=zb.cellS rfl
   have z9:wr.cell? ⟨w.heap.size,9,none⟩=some (.slice none 0 0):=zb.cellS rfl
   have zf0:=zb.frozen 0
   have zf1:=zb.frozen 1
   have zf2:=zb.frozen 2
   have zf3:=zb.frozen 3
   have zf4:=zb.frozen 4
   have zf5:=zb.frozen 5
   have zf6:=zb.frozen 6
   have zf7:=zb.frozen 7
   have zf8:=zb.frozen 8
   have zf9:=zb.frozen 9
   go_wp2_with fail
   obtain ⟨hbk,hmd⟩:=an_refused HN1.out 0
   generalize hWW:World.setCell _ _ _=WW at hbk hmd ⊢
   have k0:WW.cell? ⟨w.heap.size,0,none⟩=some (.int .i64 0):=hbk.cellS rfl
   have k1:WW.cell? ⟨w.heap.size,1,none⟩=some (.int .i64 0):=hbk.cellS rfl
   have k2:WW.cell? ⟨w.heap.size,2,none⟩=some (.int .i64 0):=hbk.cellS rfl
   have k3:WW.cell? ⟨w.heap.size,3,none⟩=some (.int .i64 0):=hbk.cellS rfl
   have k4:WW.cell? ⟨w.heap.size,4,none⟩=some (.int .i64 0):=hbk.cellS rfl
   have k5:WW.cell? ⟨w.heap.size,5,none⟩=some (.int .i64 0):=hbk.cellS rfl
   have k6:WW.cell? ⟨w.heap.size,6,none⟩=some (.int .i64 0):=hbk.cellS rfl
   have k7:WW.cell? ⟨w.heap.size,7,none⟩=some (.int .i64 0):=hbk.cellS rfl
   have k8:WW.cell? ⟨w.heap.size,8,none⟩=some (.string ⟨#[]⟩):=hbk.cellS rfl
   have k9:WW.cell? ⟨w.heap.size,9,none⟩=some (.slice none 0 0):=hbk.cellS rfl
   clear hWW hbk
   refine bodyPost_ret (v:= .tuple #[ansV (An.zero 0) (.slice none 0 0),.int .i64 6]) (by simp [results,Tryz.results75,go_sem,ansV,An.zero,k0,k1,k2,k3,k4,k5,k6,k7,k8,k9,str]) rfl ?_
   exact try_no HSL.out HL.out HS1.out HL1.out (St.refl HL.out.ar.rel t) ⟨rfl,rfl,rfl⟩ (by decide) HF.out hmd
end Go.Proofs.YthohnjgnpapnoaaGreatDoor
namespace Go.Proofs.YthohnjgnpapnoaaGreatDoor
open Go.RowKit
theorem ofP_step {w w0 wc w':World} {p:Nat} {R R':ArR} {S':ArS} {A':Nat→Abs} {o:Obj} (h0:w0=w.alloc o) (hs:StepH NoX p R R' w0 wc) (ha:Ar wc p R' S' A') (hn:¬Own p R w.heap.size) (hm:Mod (fun b=>b=w.heap.size) wc w'):Ar w' p R' S' A'∧StepH NoX p R R' w w':=by
 subst h0
 have hlt:w.heap.size<(w.alloc o).heap.size:=by rw [World.size_alloc];omega
 have hb:Below w.heap.size w (w.alloc o):=(Below.refl _ _).alloc (Nat.le_refl _) _
 have hs2:=(StepH.of_below (R:=R) (p:=p) (X:=NoX) hb).trans hs
 have hn2:¬Own p R' w.heap.size:=hs.not hlt hn
 have hsz:=hs.mod.size
 have hs3:StepH (fun b=>b=w.heap.size) p R' R' wc w':=⟨hm.mono fun _ _ e=> .inr e,fun _ h=> .inl h⟩
 refine ⟨⟨ha.arm.keep hm fun b hb e=>hn2 (e▸hb),ha.rel,ha.add⟩,?_⟩
 exact ((hs2.wide (Y:=fun b=>b=w.heap.size) fun b hlt e=>e.elim).trans hs3).wide fun b hlt e=>by omega
set_option maxRecDepth 100000 in
set_option maxHeartbeats 3200000 in
theorem copyOf_any (w:World) (p:Nat) (R:ArR) (S:ArS) (A:Nat→Abs) (t:Nat) (ha:Ar w p R S A) (x:WD) (hx:Has S A t x.root (rootT x.P x.k)) (fb:Nat) (hf:Blk w fb 137 #[.string (str x.name),.int .i64 x.root,.int .i64 x.b,.int .i64 x.l]):
 Calls Tryz.prog 77 #[.pointer (some ⟨fb,0,none⟩)] w (OfP w p R S A t (fun _=>True) x.P x.k x.b x.l):=by
 have HA:=Lib.hid ha
 have HX:=Lib.hid hx
 have HF:=Lib.hid hf
 have HNO:Hid (¬Own p R w.heap.size):=Lib.hid fun hb=>Nat.lt_irrefl _ (ha.arm.own_lt hb)
 clear ha hx hf
 go_enter Tryz.func77,Tryz.ntmps77
 have HN0:Hid (Blk (w.alloc (.cells #[.string ⟨#[]⟩,.int .i64 0,.int .i64 0,.int .i64 0] 137)) w.heap.size 137 #[.string ⟨#[]⟩,.int .i64 0,.int .i64 0,.int .i64 0]):=Lib.hid (Blk.new w _ _)
 have HF0:Hid (Blk (w.alloc (.cells #[.string ⟨#[]⟩,.int .i64 0,.int .i64 0,.int .i64 0] 137)) fb 137 #[.string (str x.name),.int .i64 x.root,.int .i64 x.b,.int .i64 x.l]):=Lib.hid (HF.out.alloc _)
 obtain ⟨w0,hw0⟩:∃w0,w0=w.alloc (.cells #[.string ⟨#[]⟩,.int .i64 0,.int .i64 0,.int .i64 0] 137):=⟨_,rfl⟩
 rw [←hw0] at HN0 HF0
 have HA0:Hid (Ar w0 p R S A):=Lib.hid (by rw [hw0];exact HA.out.below ((Below.refl _ _).alloc (Nat.le_refl _) _))
 have HW0:=Lib.hid hw0
 have f0:w0.cell? ⟨fb,0,none⟩=some (.string (str x.name)):=HF0.out.cellS rfl
 have f1:w0.cell? ⟨fb,1,none⟩=some (.int .i64 x.root):=HF0.out.cellS rfl
 have f2:w0.cell? ⟨fb,2,none⟩=some (.int .i64 x.b):=HF0.out.cellS rfl
 have f3:w0.cell? ⟨fb,3,none⟩=some (.int .i64 x.l):=HF0.out.cellS rfl
 have zb:=HN0.out
 have z0:w0.cell? ⟨w.heap.size,0,none⟩=some (.string ⟨#[]⟩):=zb.cellS rfl
 have z1:w0.cell? ⟨w.heap.size,1,none⟩=some (.int .i64 0):=zb.cellS rfl
 have z2:w0.cell? ⟨w.heap.size,2,none⟩=some (.int .i64 0):=zb.cellS rfl
 have z3:w0.cell? ⟨w.heap.size,3,none⟩=some (.int .i64 0):=zb.cellS rfl
 have zf0:=zb.frozen 0
 have zf1:=zb.frozen 1
 have zf2:=zb.frozen 2
 have zf3:=zb.frozen 3
 go_upto_region 1 with fail
 rw [←hw0]
 clear hw0
 go_wp2_with fail
 have hbm:Blk ((((w0.setCell ⟨w.heap.size,0,none⟩ (.string (str x.name))).setCell ⟨w.heap.size,1,none⟩ (.int .i64 x.root)).setCell ⟨w.heap.size,2,none⟩ (.int .i64 x.b)).setCell ⟨w.heap.size,3,none⟩ (.int .i64 x.l)) w.heap.size 137 #[.string (str x.name),.int .i64 x.root,.int .i64 x.b,.int .i64 x.l]:=(((HN0.out.set 0 (.string (str x.name))).set 1 (.int .i64 x.root)).set 2 (.int .i64 x.b)).set 3 (.int .i64 x.l)
 have hmd:Mod (fun b=>b=w.heap.size) w0 ((((w0.setCell ⟨w.heap.size,0,none⟩ (.string (str x.name))).setCell ⟨w.heap.size,1,none⟩ (.int .i64 x.root)).setCell ⟨w.heap.size,2,none⟩ (.int .i64 x.b)).setCell ⟨w.heap.size,3,none⟩ (.int .i64 x.l)):=((((Mod.refl (fun b=>b=w.heap.size) w0).set (p:=⟨w.heap.size,0,none⟩) (fun _=>rfl) _).set (p:=⟨w.heap.size,1,none⟩) (fun _=>rfl) _).set (p:=⟨w.heap.size,2,none⟩) (fun _=>rfl) _).set (p:=⟨w.heap.size,3,none⟩) (fun _=>rfl) _
 generalize hWW:World.setCell _ _ _=WW at hbm hmd ⊢
 have k0:WW.cell? ⟨w.heap.size,0,none⟩=some (.string (str x.name)):=hbm.cellS rfl
 have k1:WW.cell? ⟨w.heap.size,1,none⟩=some (.int .i64 x.root):=hbm.cellS rfl
 have k2:WW.cell? ⟨w.heap.size,2,none⟩=some (.int .i64 x.b):=hbm.cellS rfl
 have k3:WW.cell? ⟨w.heap.size,3,none⟩=some (.int .i64 x.l):=hbm.cellS rfl
 clear hWW hbm
 refine bodyPost_ret (v:= .tuple #[.agg #[.string (str x.name),.int .i64 x.root,.int .i64 x.b,.int .i64 x.l],.int .i64 0]) (by simp [results,Tryz.results77,go_sem,k0,k1,k2,k3]) rfl ?_
 obtain ⟨g1,g2⟩:=ofP_step HW0.out (StepH.refl _ _ _ _) HA0.out HNO.out hmd
 exact ⟨x.root,str x.name,S,A,R,0,rfl,Grew.refl HA0.out.rel t _ 0,fun _=>HX.out,g1,g2⟩
set_option maxRecDepth 100000 in
set_option maxHeartbeats 3200000 in
theorem newOf_any (w:World) (h p:Nat) (R:ArR) (S:ArS) (A:Nat→Abs) (t:Nat) (d:Int) (Ws:List WD) (wv:Value) (ser:Nat) (K:List KeyD) (kv:Value) (HH:Hl w h p R S A t d Ws wv ser K kv) (hb qb:Nat) (hh:Blk w hb 47 #[.pointer (some ⟨h,0,none⟩)]) (q:SReq) (qv:Value) (hq:Blk w qb 60 (qC q qv)) (hno:¬Own p R qb):
 Calls Tryz.prog 70 #[.pointer (some ⟨hb,0,none⟩),.pointer (some ⟨qb,0,none⟩)] w (OfP w p R S A t (fun V=>∀x∈nodes (rootT (setOfL []) 1),x∈V) (setOfL []) 1 q.b q.l):=by
 have HL:=Lib.hid HH
 have HQ:=Lib.hid hq
 have HHB:=Lib.hid hh
 have HNQ:=Lib.hid hno
 have HNO:Hid (¬Own p R w.heap.size):=Lib.hid (HH.new (Nat.le_refl _)).1
 clear HH hq hno hh
 go_enter Tryz.func70,Tryz.ntmps70
 have HN0:Hid (Blk (w.alloc (.cells #[.string ⟨#[]⟩,.int .i64 0,.int .i64 0,.int .i64 0] 137)) w.heap.size 137 #[.string ⟨#[]⟩,.int .i64 0,.int .i64 0,.int .i64 0]):=Lib.hid (Blk.new w _ _)
 obtain ⟨w0,hw0⟩:∃w0,w0=w.alloc (.cells #[.string ⟨#[]⟩,.int .i64 0,.int .i64 0,.int .i64 0] 137):=⟨_,rfl⟩
 rw [←hw0] at HN0
 have HB0:Hid (Below w.heap.size w w0):=Lib.hid (by rw [hw0];exact (Below.refl _ _).alloc (Nat.le_refl _) _)
 have HL0:=Lib.hid (HL.out.below HB0.out)
 have HQ0:Hid (Blk w0 qb 60 (qC q qv)):=Lib.hid (by rw [hw0];exact HQ.out.alloc _)
 have HHB0:Hid (Blk w0 hb 47 #[.pointer (some ⟨h,0,none⟩)]):=Lib.hid (by rw [hw0];exact HHB.out.alloc _)
 have HW0:=Lib.hid hw0
 have HQN:Hid (qb≠w.heap.size):=Lib.hid fun e=>by have:=HQ.out.lt;omega
 have HFM:=Lib.hid (fun (wx:World) (hA:Ar wx p R S A)=>from_any wx p R S A hA t HL0.out.ht wx.heap.size 0 (.slice none 0 0) [] (Sl.nil wx 109 2).rd (Nat.le_refl _) (by decide) (by simp))
 have c0:w0.cell? ⟨h,0,none⟩=some (.pointer (some ⟨p,0,none⟩)):=HL0.out.blk.cellS rfl
 have c1:w0.cell? ⟨h,1,none⟩=some (.int .i64 t):=HL0.out.blk.cellS rfl
 have b0:w0.cell? ⟨hb,0,none⟩=some (.pointer (some ⟨h,0,none⟩)):=HHB0.out.cellS rfl
 go_upto_region 1 with fail
 try rw [←hw0]
 clear hw0
 go_region_law (first | (go_simp;go_at_call 71;refine (HFM.out _ (by exact HL0.out.ar.below (Below.refl _ _).drew)).mono ?_;rintro e w1 ⟨k,hlk,_,r,S',A',R',bad,rfl,hm,hh,ha,hst⟩))
 all_goals (
  have hk1:k=1:=leastK_unique hlk (l':=[]) ⟨Nat.le_refl _,(fun c hc=>by cases hc),fun j h1 h2=>by omega⟩ fun _=>Iff.rfl
  subst hk1
  have HS1:Hid (StepH NoX p R R' w0 w1):=Lib.hid ((StepH.of_below (Below.refl _ _).drew).trans hst)
  have HA1:=Lib.hid ha
  have HM1:=Lib.hid hm
  have HH1:=Lib.hid hh
  have HQ1:Hid (Blk w1 qb 60 (qC q qv)):=Lib.hid (HS1.out.keepX HQ0.out HNQ.out (fun h=>h))
  have HN1:Hid (Blk w1 w.heap.size 137 #[.string ⟨#[]⟩,.int .i64 0,.int .i64 0,.int .i64 0]):=Lib.hid (HS1.out.keepX HN0.out HNO.out (fun h=>h))
  clear hlk ha hm hh hst c0 c1 b0 HFM
  obtain ⟨v,hv⟩:∃v,v=(if bad=0 then r else 0):=⟨_,rfl⟩
  rw [←hv]
  have HV:=Lib.hid hv
  clear hv
  have q3:w1.cell? ⟨qb,3,none⟩=some (.int .i64 q.b):=HQ1.out.cellS rfl
  have q4:w1.cell? ⟨qb,4,none⟩=some (.int .i64 q.l):=HQ1.out.cellS rfl
  have zb:=HN1.out
  have z0:w1.cell? ⟨w.heap.size,0,none⟩=some (.string ⟨#[]⟩):=zb.cellS rfl
  have z1:w1.cell? ⟨w.heap.size,1,none⟩=some (.int .i64 0):=zb.cellS rfl
  have z2:w1.cell? ⟨w.heap.size,2,none⟩=some (.int .i64 0):=zb.cellS rfl
  have z3:w1.cell? ⟨w.heap.size,3,none⟩=some (.int .i64 0):=zb.cellS rfl
  have zf0:=zb.frozen 0
  have zf1:=zb.frozen 1
  have zf2:=zb.frozen 2
  have zf3:=zb.frozen 3
  go_wp2_with fail
  have hbm:Blk ((((w1.setCell ⟨w.heap.size,0,none⟩ (.string ⟨#[]⟩)).setCell ⟨w.heap.size,1,none⟩ (.int .i64 v)).setCell ⟨w.heap.size,2,none⟩ (.int .i64 q.b)).setCell ⟨w.heap.size,3,none⟩ (.int .i64 q.l)) w.heap.size 137 #[.string ⟨#[]⟩,.int .i64 v,.int .i64 q.b,.int .i64 q.l]:=(((HN1.out.set 0 (.string ⟨#[]⟩)).set 1 (.int .i64 v)).set 2 (.int .i64 q.b)).set 3 (.int .i64 q.l)
  have hmd:Mod (fun b=>b=w.heap.size) w1 ((((w1.setCell ⟨w.heap.size,0,none⟩ (.string ⟨#[]⟩)).setCell ⟨w.heap.size,1,none⟩ (.int .i64 v)).setCell ⟨w.heap.size,2,none⟩ (.int .i64 q.b)).setCell ⟨w.heap.size,3,none⟩ (.int .i64 q.l)):=((((Mod.refl (fun b=>b=w.heap.size) w1).set (p:=⟨w.heap.size,0,none⟩) (fun _=>rfl) _).set (p:=⟨w.heap.size,1,none⟩) (fun _=>rfl) _).set (p:=⟨w.heap.size,2,none⟩) (fun _=>rfl) _).set (p:=⟨w.heap.size,3,none⟩) (fun _=>rfl) _
  generalize hWW:World.setCell _ _ _=WW at hbm hmd ⊢
  have k0:WW.cell? ⟨w.heap.size,0,none⟩=some (.string ⟨#[]⟩):=hbm.cellS rfl
  have k1:WW.cell? ⟨w.heap.size,1,none⟩=some (.int .i64 v):=hbm.cellS rfl
  have k2:WW.cell? ⟨w.heap.size,2,none⟩=some (.int .i64 q.b):=hbm.cellS rfl
  have k3:WW.cell? ⟨w.heap.size,3,none⟩=some (.int .i64 q.l):=hbm.cellS rfl
  clear hWW hbm
  refine bodyPost_ret (v:= .tuple #[.agg #[.string ⟨#[]⟩,.int .i64 v,.int .i64 q.b,.int .i64 q.l],.int .i64 bad]) (by simp [results,Tryz.results70,go_sem,k0,k1,k2,k3]) rfl ?_
  obtain ⟨g1,g2⟩:=ofP_step HW0.out HS1.out HA1.out HNO.out hmd
  exact ⟨r,⟨#[]⟩,S',A',R',bad,by rw [HV.out],HM1.out.grew,HH1.out,g1,g2⟩
  skip)
end Go.Proofs.YthohnjgnpapnoaaGreatDoor
