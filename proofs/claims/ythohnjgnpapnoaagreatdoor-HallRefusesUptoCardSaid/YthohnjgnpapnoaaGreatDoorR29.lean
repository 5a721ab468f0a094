/- hall: set. · hall: a universe less: the plain law of the two slices. -/
import Derived.Test.YthohnjgnpapnoaaGreatDoorR27
import Derived.Test.YthohnjgnpapnoaaGreatDoorR28
import Derived.Test.YthohnjgnpapnoaaGreatDoorR21
import Derived.Deep.RegionLaw
import Derived.Deep.LoopGhost
set_option linter.unusedVariables false
set_option linter.unusedSimpArgs false
namespace Go.Proofs.YthohnjgnpapnoaaGreatDoor
open Go.RowKit
open Classical in
noncomputable def setX (H:HS) (q:SReq):Int:=
 if (hfind H.Ws H.K q.name 2).2≠0 then (hfind H.Ws H.K q.name 2).2 else if 4096<q.cells.length then 5 else if ∃c∈q.cells,¬okC c then 3 else 0
def SetF (H:HS) (q:SReq) (t:Nat) (x:Int) (H':HS):Prop:=setX H q=x∧H'=H∨setX H q=0∧∃y s,H.Ws[(hfind H.Ws H.K q.name 2).1]? =some y∧Tid q.cells s∧Grew t (SetC y.P y.k s) H.S H.A 0 H'.S H'.A x
def SetG (H:HS) (q:SReq) (t:Nat) (a:An) (H':HS):Prop:=setX H q=0∧a=An.zero 0∧∃y s r,H.Ws[(hfind H.Ws H.K q.name 2).1]? =some y∧Tid q.cells s∧Grew t (SetC y.P y.k s) H.S H.A 0 H'.S H'.A 0∧SetC y.P y.k s (H'.A t).have_∧
 H'.Ws=H.Ws.set (hfind H.Ws H.K q.name 2).1 {y with root:=r,P:=(setW y.P y.k s).1,k:=(setW y.P y.k s).2}∧H'.ser=H.ser∧H'.K=H.K
set_option maxRecDepth 100000 in
set_option maxHeartbeats 3200000 in
theorem set_any (w:World) (h p:Nat) (R:ArR) (H:HS) (t:Nat) (d:Int) (wv kv:Value) (HH:Hl w h p R H.S H.A t d H.Ws wv H.ser H.K kv) (q:SReq) (qA:Option Addr) (qn qcap:Nat) (hn:q.name.length≤4294967296) (hqr:Rd w w.heap.size 2 (.slice qA qn qcap) qn (flat q.cells)) (hql:qn≤maxLen):
 Calls Tryz.prog 72 #[.pointer (some ⟨h,0,none⟩),reqV q (.slice qA qn qcap)] w (TryP w h p R H t d wv kv (SetF H q t) (SetG H q t)):=by
 have HL:=Lib.hid HH
 have HFN:=Lib.hid (fun w1 (h1:HlR w1 h p t d H.Ws wv H.ser H.K kv)=>hfind_any w1 h p t d H.Ws wv H.ser H.K kv h1 q.name hn 2)
 have HQL:=Lib.hid hql
 have HQR:=Lib.hid hqr
 have HQN:Hid (q.cells.length=qn):=Lib.hid hqr.pairs.1
 clear HH hql hqr
 unfold reqV
 go_enter Tryz.func72,Tryz.ntmps72
 go_wp2_with fail
 generalize hw0:World.alloc (World.alloc w _) _=w0
 obtain ⟨s1,q0,n0,s0⟩:=slots w q (.slice qA qn qcap) (w0:=w0) hw0
 have HSL:=Lib.hid s1
 have HQ0:=Lib.hid q0
 have HN0:=Lib.hid n0
 have HSQ:=Lib.hid s0
 have HL0:=Lib.hid (HL.out.below s1.bel)
 clear hw0 s1 q0 n0 s0
 (with_reducible refine (HFN.out _ HL0.out.r).mono ?_)
 rintro e w1 ⟨ptr,rfl,hb1,hp0,hp1⟩
 have HL1:=Lib.hid (HL0.out.below hb1)
 have HS1:Hid (HStep h p R wv kv R wv kv w0 w1):=HStep.arena (StepH.of_below hb1)
 have HN1:=Lib.hid (HSL.out.keep HL.out HS1.out HN0.out)
 have HQ1:=Lib.hid (HSQ.out.keep HL.out HS1.out HQ0.out)
 have HP0:=Lib.hid hp0
 have HP1:=Lib.hid hp1
 have HB1:=Lib.hid hb1
 clear hb1 hp0 hp1 HFN
 obtain ⟨x,hx⟩:∃x,x=(hfind H.Ws H.K q.name 2).2:=⟨_,rfl⟩
 rw [←hx]
 have HX:=Lib.hid hx
 clear hx
 by_cases hx0:x=0
 ·subst hx0
  have q6:w1.cell? ⟨w.heap.size,6,none⟩=some (.slice qA qn qcap):=HQ1.out.cellS rfl
  by_cases hbig:4096<qn
  ·have HTD:=Lib.hid (tidy_full w1 qA qn qcap hbig HQL.out)
   have HF:Hid (SetF H q t 5 H):= .inl ⟨by unfold setX;rw [if_neg (fun hz=>hz HX.out.symm),if_pos (by rw [HQN.out];exact hbig)],rfl⟩
   clear hbig
   go_wp2_with fail
   (with_reducible refine HTD.out.mono ?_)
   rintro e wq ⟨rfl,rfl⟩
   have zb:=HN1.out
   have z0:w1.cell? ⟨w.heap.size+1,0,none⟩=some (.int .i64 0):=zb.cellS rfl
   have z1:w1.cell? ⟨w.heap.size+1,1,none⟩=some (.int .i64 0):=zb.cellS rfl
   have z2:w1.cell? ⟨w.heap.size+1,2,none⟩=some (.int .i64 0):=zb.cellS rfl
   have z3:w1.cell? ⟨w.heap.size+1,3,none⟩=some (.int .i64 0):=zb.cellS rfl
   have z4:w1.cell? ⟨w.heap.size+1,4,none⟩=some (.int .i64 0):=zb.cellS rfl
   have z5:w1.cell? ⟨w.heap.size+1,5,none⟩=some (.int .i64 0):=zb.cellS rfl
   have z6:w1.cell? ⟨w.heap.size+1,6,none⟩=some (.int .i64 0):=zb.cellS rfl
   have z7:w1.cell? ⟨w.heap.size+1,7,none⟩=some (.int .i64 0):=zb.cellS rfl
   have z8:w1.cell? ⟨w.heap.size+1,8,none⟩=some (.string ⟨#[]⟩):=zb.cellS rfl
   have z9:w1.cell? ⟨w.heap.size+1,9,none⟩=some (.slice none 0 0):=zb.cellS rfl
   have zf0:=zb.frozen 0
   have zf1:=zb.frozen 1
   have zf2:=zb.frozen 2
   have zf3:=zb.frozen 3
   have zf4:=zb.frozen 4
   have zf5:=zb.frozen 5
   have zf6:=zb.frozen 6
   have zf7:=zb.frozen 7
   have zf8:=zb.frozen 8
   have zf9:=zb.frozen 9
   go_wp2_with fail
   obtain ⟨hbk,hmd⟩:=an_refused HN1.out 0
   generalize hWW:World.setCell _ _ _=WW at hbk hmd ⊢
   have k0:WW.cell? ⟨w.heap.size+1,0,none⟩=some (.int .i64 0):=hbk.cellS rfl
   have k1:WW.cell? ⟨w.heap.size+1,1,none⟩=some (.int .i64 0):=hbk.cellS rfl
   have k2:WW.cell? ⟨w.heap.size+1,2,none⟩=some (.int .i64 0):=hbk.cellS rfl
   have k3:WW.cell? ⟨w.heap.size+1,3,none⟩=some (.int .i64 0):=hbk.cellS rfl
   have k4:WW.cell? ⟨w.heap.size+1,4,none⟩=some (.int .i64 0):=hbk.cellS rfl
   have k5:WW.cell? ⟨w.heap.size+1,5,none⟩=some (.int .i64 0):=hbk.cellS rfl
   have k6:WW.cell? ⟨w.heap.size+1,6,none⟩=some (.int .i64 0):=hbk.cellS rfl
   have k7:WW.cell? ⟨w.heap.size+1,7,none⟩=some (.int .i64 0):=hbk.cellS rfl
   have k8:WW.cell? ⟨w.heap.size+1,8,none⟩=some (.string ⟨#[]⟩):=hbk.cellS rfl
   have k9:WW.cell? ⟨w.heap.size+1,9,none⟩=some (.slice none 0 0):=hbk.cellS rfl
   clear hWW hbk
   refine bodyPost_ret (v:= .tuple #[ansV (An.zero 0) (.slice none 0 0),.int .i64 5]) (by simp [results,Tryz.results72,go_sem,ansV,An.zero,k0,k1,k2,k3,k4,k5,k6,k7,k8,k9,str]) rfl ?_
   exact try_no HSL.out HL.out HS1.out HL1.out (St.refl HL.out.ar.rel t) ⟨rfl,rfl,rfl⟩ (by decide) HF.out hmd
  ·have HBG:=Lib.hid hbig
   by_cases hbad:∃c∈q.cells,¬okC c
   ·have HTD:=Lib.hid (tidy_range w1 w.heap.size qn (.slice qA qn qcap) q.cells (HQR.out.below (HSL.out.bel.trans (HB1.out.mono HSL.out.bel.size))) (Nat.le_trans HSL.out.bel.size HB1.out.size) (by omega) hbad)
    have HF:Hid (SetF H q t 3 H):= .inl ⟨by unfold setX;rw [if_neg (fun hz=>hz HX.out.symm),if_neg (by rw [HQN.out];exact HBG.out),if_pos hbad],rfl⟩
    clear hbad hbig
    go_wp2_with fail
    (with_reducible refine HTD.out.mono ?_)
    rintro e w2 ⟨rfl,hb2⟩
    have HL2:=Lib.hid (HL1.out.below hb2)
    have HS2:=Lib.hid (HS1.out.below hb2)
    have HN2:=Lib.hid (HSL.out.keep HL.out HS2.out HN0.out)
    clear hb2
    have zb:=HN2.out
    have z0:w2.cell? ⟨w.heap.size+1,0,none⟩=some (.int .i64 0):=zb.cellS rfl
    have z1:w2.cell? ⟨w.heap.size+1,1,none⟩=some (.int .i64 0):=zb.cellS rfl
    have z2:w2.cell? ⟨w.heap.size+1,2,none⟩=some (.int .i64 0):=zb.cellS rfl
    have z3:w2.cell? ⟨w.heap.size+1,3,none⟩=some (.int .i64 0):=zb.cellS rfl
    have z4:w2.cell? ⟨w.heap.size+1,4,none⟩=some (.int .i64 0):=zb.cellS rfl
    have z5:w2.cell? ⟨w.heap.size+1,5,none⟩=some (.int .i64 0):=zb.cellS rfl
    have z6:w2.cell? ⟨w.heap.size+1,6,none⟩=some (.int .i64 0):=zb.cellS rfl
    have z7:w2.cell? ⟨w.heap.size+1,7,none⟩=some (.int .i64 0):=zb.cellS rfl
    have z8:w2.cell? ⟨w.heap.size+1,8,none⟩=some (.string ⟨#[]⟩):=zb.cellS rfl
    have z9:w2.cell? ⟨w.heap.size+1,9,none⟩=some (.slice none 0 0):=zb.cellS rfl
    have zf0:=zb.frozen 0
    have zf1:=zb.frozen 1
    have zf2:=zb.frozen 2
    have zf3:=zb.frozen 3
    have zf4:=zb.frozen 4
    have zf5:=zb.frozen 5
    have zf6:=zb.frozen 6
    have zf7:=zb.frozen 7
    have zf8:=zb.frozen 8
    have zf9:=zb.frozen 9
    go_wp2_with fail
    obtain ⟨hbk,hmd⟩:=an_refused HN2.out 0
    generalize hWW:World.setCell _ _ _=WW at hbk hmd ⊢
    have k0:WW.cell? ⟨w.heap.size+1,0,none⟩=some (.int .i64 0):=hbk.cellS rfl
    have k1:WW.cell? ⟨w.heap.size+1,1,none⟩=some (.int .i64 0):=hbk.cellS rfl
    have k2:WW.cell? ⟨w.heap.size+1,2,none⟩=some (.int .i64 0):=hbk.cellS rfl
    have k3:WW.cell? ⟨w.heap.size+1,3,none⟩=some (.int .i64 0):=hbk.cellS rfl
    have k4:WW.cell? ⟨w.heap.size+1,4,none⟩=some (.int .i64 0):=hbk.cellS rfl
    have k5:WW.cell? ⟨w.heap.size+1,5,none⟩=some (.int .i64 0):=hbk.cellS rfl
    have k6:WW.cell? ⟨w.heap.size+1,6,none⟩=some (.int .i64 0):=hbk.cellS rfl
    have k7:WW.cell? ⟨w.heap.size+1,7,none⟩=some (.int .i64 0):=hbk.cellS rfl
    have k8:WW.cell? ⟨w.heap.size+1,8,none⟩=some (.string ⟨#[]⟩):=hbk.cellS rfl
    have k9:WW.cell? ⟨w.heap.size+1,9,none⟩=some (.slice none 0 0):=hbk.cellS rfl
    clear hWW hbk
    refine bodyPost_ret (v:= .tuple #[ansV (An.zero 0) (.slice none 0 0),.int .i64 3]) (by simp [results,Tryz.results72,go_sem,ansV,An.zero,k0,k1,k2,k3,k4,k5,k6,k7,k8,k9,str]) rfl ?_
    exact try_no HSL.out HL.out HS2.out HL2.out (St.refl HL.out.ar.rel t) ⟨rfl,rfl,rfl⟩ (by decide) HF.out hmd
   ·have hok:∀c∈q.cells,okC c:=fun c hc=>Classical.byContradiction fun hn=>hbad ⟨c,hc,hn⟩
    have HTD:=Lib.hid (tidy_ok w1 w.heap.size qn (.slice qA qn qcap) q.cells (HQR.out.below (HSL.out.bel.trans (HB1.out.mono HSL.out.bel.size))) (Nat.le_trans HSL.out.bel.size HB1.out.size) (by omega) hok)
    have HX0:Hid (setX H q=0):=by show _=_;unfold setX;rw [if_neg (fun hz=>hz HX.out.symm),if_neg (by rw [HQN.out];exact HBG.out),if_neg hbad]
    have HOK:=Lib.hid hok
    obtain ⟨hil,b,off,cap,hwv,hptr⟩:=HP1.out HX.out.symm
    subst hptr
    subst hwv
    generalize hi:(hfind H.Ws H.K q.name 2).1=i at*
    have HI':=Lib.hid hi
    clear hbad hbig hok hi
    go_wp2_with fail
    (with_reducible refine HTD.out.mono ?_)
    rintro e w2 ⟨A5,m5,s5,rfl,hts,hs5,hf5,hb2⟩
    have HL2:=Lib.hid (HL1.out.below hb2)
    have HS2:=Lib.hid (HS1.out.below hb2)
    obtain ⟨y,hy⟩:∃y,H.Ws[i]? =some y:=⟨_,List.getElem?_eq_getElem hil⟩
    have HY:=Lib.hid hy
    obtain ⟨b',off',cap',hv',_,_,d0,d1,d2,d3⟩:=ws_cells HL2.out.ws hy
    injection hv' with hv' _ hcap'
    injection hv' with hv'
    injection hv' with hb' ho' _
    subst hb'
    subst ho'
    have HTS:=Lib.hid hts
    have HNW:Hid (∀q,sblk (.slice A5 m5 m5)=some q→¬(Own p R q∨q=h∨sblk (.slice (some ⟨b,off,none⟩) H.Ws.length cap)=some q)):=fun q hq=>by
     have h1:=hf5 q hq
     have h2:=HL1.out.new h1
     rintro (e | e | e)
     ·exact h2.1 e
     ·exact h2.2.1 e
     ·exact h2.2.2.1 e
    obtain ⟨hln,hat⟩:=hs5.rd.pairs
    have HLN:=Lib.hid hln
    have hm5:m5≤maxLen:=by
     obtain ⟨_,_,he,e1,e2⟩:=hs5.form
     injection he with _ _ he
     omega
    have HOK5:Hid (∀c∈s5,okC c):=fun c hc=>HOK.out c ((hts.2 c).1 hc)
    have HGY:=Lib.hid (HL2.out.good y (List.mem_of_getElem? hy))
    have HS5:=Lib.hid hs5
    have H0:Hid (SetI w2 h p R H t d (.slice (some ⟨b,off,none⟩) H.Ws.length cap) kv y s5 [] y.P y.k y.root H.S H.A R 0 w2):=⟨HL2.out,HStep.refl _ _ _ _ _ _,Grew.refl HL2.out.ar.rel t _ 0,fun _=>HGY.out.has,fun _=>trivial⟩
    unfold maxLen at hm5
    clear hts hs5 hf5 hb2 hy HTD hcap' hln hat
    go_wp2_with fail
    clear d0 d1 d2 d3
    go_loopw [7,9,40] (fun ev rv iv wx=>∃(i:Nat) (r:Int) (S':ArS) (A':Nat→Abs) (R':ArR) (bad:Int),ev= .int .i64 bad∧rv= .int .i64 r∧iv= .int .i64 i∧i≤m5∧SetI w2 h p R H t d (.slice (some ⟨b,off,none⟩) H.Ws.length cap) kv y s5 (s5.take i) (setW y.P y.k (s5.take i)).1 (setW y.P y.k (s5.take i)).2 r S' A' R' bad wx) (fun _ _ iv _=>m5-(intOf iv).toNat)
    case atStart=>exact ⟨0,_,H.S,H.A,R,0,rfl,rfl,rfl,Nat.zero_le _,H0.out⟩
    case round=>
     clear H0
     obtain ⟨i5,r,S',A',R',bad,rfl,rfl,rfl,hi5,hI⟩:=hrel
     have HI:=Lib.hid hI
     clear hI
     by_cases hlt:i5<m5
     ·have HLT:=Lib.hid hlt
      obtain ⟨c,hc⟩:∃c,c=s5[i5]! :=⟨_,rfl⟩
      have hci:s5[i5]? =some c:=by rw [hc,List.getElem!_eq_getElem?_getD,List.getElem?_eq_getElem (by have:=HLN.out;omega)];rfl
      have HCI:=Lib.hid hci
      have HTK:Hid (s5.take (i5+1)=s5.take i5++ [c]):=by
       show _=_
       rw [List.take_add_one,hci];rfl
      have HCO:Hid (okC c):=HOK5.out c (List.mem_of_getElem? hci)
      have HSL:=Lib.hid (HS5.out.mod HI.out.st.mod HNW.out)
      obtain ⟨b5,off5,cap5,hv5,_,_,_,hcs⟩:=HSL.out.rd.pairs.2 (by omega)
      injection hv5 with hv5 _ hcap5
      subst hv5
      subst hcap5
      obtain ⟨e0,e1⟩:=hcs i5 hlt
      rw [←hc] at e0 e1
      have hii:(i5:Int)<(m5:Int):=by omega
      have HWK:=Lib.hid (setW_ok (s5.take i5) HGY.out.supp HGY.out.ok HGY.out.k40 fun c hc=>HOK5.out c (List.mem_of_mem_take hc))
      have HSC:Hid (∀V,SetC y.P y.k s5 V→UpC (setW y.P y.k (s5.take i5)).1 (setW y.P y.k (s5.take i5)).2 c V∧∀x∈nodes (rootT (setP (setW y.P y.k (s5.take i5)).1 c.1 c.2 true) (upK 41 (setW y.P y.k (s5.take i5)).2 c)),x∈V):=fun V hV=>by
       have e:s5=s5.take (i5+1)++s5.drop (i5+1):=(List.take_append_drop _ _).symm
       rw [e,HTK.out,SetC_append,SetC_append] at hV
       exact ⟨hV.1.2.1,hV.1.2.2.1⟩
      have HJ0:=Lib.hid (HI.out.start HWK.out.2.2.1 c)
      clear hlt hi5 hcs hc hci HI
      generalize hPP:(setW y.P y.k (s5.take i5)).1=P5 at*
      generalize hKK:(setW y.P y.k (s5.take i5)).2=k5 at*
      have HPK:Hid (setW y.P y.k (s5.take i5)=(P5,k5)):=by show _=_;rw [←hPP,←hKK]
      clear hPP hKK
      obtain ⟨cx,cy⟩:=c
      go_wp2_with fail
      clear e0 e1
      try dsimp only at HJ0
      generalize wr=wo at*
      generalize World.alloc wo _=w5 at HJ0 ⊢
      generalize wo.heap.size=cb at HJ0 ⊢
      have hwl:IntKind.i64.wrap ((i5:Int)+1)=(i5:Int)+1:=by rw [IntKind.wrap_i64];have:=HLT.out;omega
      go_loopg [7,9] (41-k5) (fun n ev rv wx=>∃(κ:Nat) (r:Int) (S':ArS) (A':Nat→Abs) (R':ArR) (bad:Int),ev= .int .i64 bad∧rv= .int .i64 r∧n+κ=41∧SetJ w2 h p R H t d (.slice (some ⟨b,off,none⟩) H.Ws.length cap) kv y s5 (s5.take i5) P5 k5 κ (cx,cy) cb r S' A' R' bad wx)
      case atStart=>exact ⟨k5,r,S',A',R',bad,rfl,rfl,by have:=HWK.out.2.2.1;omega,HJ0.out⟩
      case round=>
       clear HJ0
       obtain ⟨κ,r,S',A',R',bad,rfl,rfl,hn,hJ⟩:=hrel
       have HJ:=Lib.hid hJ
       have HN:=Lib.hid hn
       clear hJ hn
       by_cases hb:bad=0
       ·subst hb
        have c0:wr.cell? ⟨h,0,none⟩=some (.pointer (some ⟨p,0,none⟩)):=HJ.out.i.hl.blk.cellS rfl
        have c1:wr.cell? ⟨h,1,none⟩=some (.int .i64 t):=HJ.out.i.hl.blk.cellS rfl
        have x0:wr.cell? ⟨cb,0,none⟩=some (.int .i64 cx):=HJ.out.cbl.cellS rfl
        have x1:wr.cell? ⟨cb,1,none⟩=some (.int .i64 cy):=HJ.out.cbl.cellS rfl
        by_cases hin:inK κ (cx,cy)
        ·have HIN:=Lib.hid hin
         have HPT:Hid (∀W,Ar W p R' S' A'→Calls Tryz.prog 108 #[.pointer (some ⟨p,0,none⟩),.int .i64 t,.int .i64 r,.agg #[.int .i64 cx,.int .i64 cy],.bool true] W (RootPost W p R' S' A' t (rootT (setP P5 cx cy true) κ))):=fun W hW=>putR_in W p R' S' A' hW t HL.out.ht P5 κ (by have:=HJ.out.hi;omega) r (HJ.out.i.has rfl) cx cy HIN.out.1 HIN.out.2 true
         clear hin
         go_wp2_with fail
         go_cut [12,7] (fun tv ev wx=>∃(v2 r2:Int) (S2:ArS) (A2:Nat→Abs) (R2:ArR) (bad2:Int),tv= .int .i64 v2∧ev= .int .i64 bad2∧bad2≠3∧SetI w2 h p R H t d (.slice (some ⟨b,off,none⟩) H.Ws.length cap) kv y s5 (s5.take (i5+1)) (setW y.P y.k (s5.take (i5+1))).1 (setW y.P y.k (s5.take (i5+1))).2 v2 S2 A2 R2 bad2 wx)
         case first=>
          go_region_held3 (fun w'=>w'.cell? ⟨h,0,none⟩=some (.pointer (some ⟨p,0,none⟩))∧w'.cell? ⟨h,1,none⟩=some (.int .i64 t)∧w'.cell? ⟨cb,0,none⟩=some (.int .i64 cx)∧w'.cell? ⟨cb,1,none⟩=some (.int .i64 cy))
           (first | (with_reducible exact ⟨c0,c1,x0,x1⟩) | (with_reducible exact ⟨e0,e1,y0,y1⟩) | go_keep)
           ((go_at_call 108;refine (HPT.out _ (by exact HJ.out.i.hl.ar.below (Below.refl _ _).drew)).mono ?_;intro e w6 hq;obtain ⟨r2,S2,A2,R2,bad2,rfl,hm,hh,ha,hst⟩:=hq;have HST2:=Lib.hid ((StepH.of_below (Below.refl _ _).drew:StepH NoX p R' R' wr wr.drew).trans hst);have HA2:=Lib.hid ha;have HM2:=Lib.hid hm;have HH2:=Lib.hid hh;obtain ⟨v2,hv2⟩:∃v2,v2=(if bad2=0 then r2 else 0):=⟨_,rfl⟩;rw [←hv2];have HV2:=Lib.hid hv2;clear hm hh ha hst hv2;have hl2:=HJ.out.i.hl.arena HA2.out HST2.out (fun x hx=>(HJ.out.i.hl.good x hx).st HL.out.ht HM2.out.st);have cb2:=HST2.out.keepX HJ.out.cbl HJ.out.no (fun h=>h);have e0:w6.cell? ⟨h,0,none⟩=some (.pointer (some ⟨p,0,none⟩)):=hl2.blk.cellS rfl;have e1:w6.cell? ⟨h,1,none⟩=some (.int .i64 t):=hl2.blk.cellS rfl;have y0:w6.cell? ⟨cb,0,none⟩=some (.int .i64 cx):=cb2.cellS rfl;have y1:w6.cell? ⟨cb,1,none⟩=some (.int .i64 cy):=cb2.cellS rfl;clear hl2 cb2))
          all_goals (
           clear c0 c1 x0 x1 e0 e1 y0 y1
           go_wp2_with fail
           go_meet
           refine ⟨v2,r2,S2,A2,R2,bad2,rfl,rfl,fun e3=>?_,?_⟩
           ·rcases HM2.out.code with e | ⟨_,e | e⟩<;>omega
           ·rw [HV2.out,HTK.out]
            exact HJ.out.put (fun V hV=>(HSC.out V hV).2) HPK.out HIN.out HM2.out HH2.out HA2.out HST2.out)
         case rest=>
          obtain ⟨v2,r2,S2,A2,R2,bad2,rfl,rfl,h3,hI2⟩:=hcut
          have HI2:=Lib.hid hI2
          have hb3:(bad2==3)=false:=beq_eq_false_iff_ne.2 h3
          clear hI2 h3 c0 c1 x0 x1
          go_wp2_with fail
          refine ⟨⟨i5+1,v2,S2,A2,R2,bad2,rfl,rfl,by go_num,HLT.out,HI2.out⟩,?_⟩
          simp [intOf];have:=HLT.out;omega
        ·have HIN:=Lib.hid hin
         have HPT:Hid (∀W,Ar W p R' S' A'→Calls Tryz.prog 108 #[.pointer (some ⟨p,0,none⟩),.int .i64 t,.int .i64 r,.agg #[.int .i64 cx,.int .i64 cy],.bool true] W (PutOut W p R' S' A')):=fun W hW=>putR_out W p R' S' A' hW t HL.out.ht P5 κ (by have:=HJ.out.hi;omega) r (HJ.out.i.has rfl) cx cy HIN.out true
         clear hin
         go_wp2_with fail
         go_cut [12,7] (fun tv ev wx=>tv= .int .i64 0∧ev= .int .i64 3∧SetJ w2 h p R H t d (.slice (some ⟨b,off,none⟩) H.Ws.length cap) kv y s5 (s5.take i5) P5 k5 κ (cx,cy) cb r S' A' R' 0 wx)
         case first=>
          go_region_held3 (fun w'=>w'.cell? ⟨h,0,none⟩=some (.pointer (some ⟨p,0,none⟩))∧w'.cell? ⟨h,1,none⟩=some (.int .i64 t)∧w'.cell? ⟨cb,0,none⟩=some (.int .i64 cx)∧w'.cell? ⟨cb,1,none⟩=some (.int .i64 cy))
           (first | (with_reducible exact ⟨c0,c1,x0,x1⟩) | (with_reducible exact ⟨e0,e1,y0,y1⟩) | go_keep)
           ((go_at_call 108;refine (HPT.out _ (by exact HJ.out.i.hl.ar.below (Below.refl _ _).drew)).mono ?_;rintro e w6 ⟨rfl,ha,hst⟩;have HJ2:=Lib.hid (HJ.out.arena ha ((StepH.of_below (Below.refl _ _).drew:StepH NoX p R' R' wr wr.drew).trans hst));clear ha hst;have e0:w6.cell? ⟨h,0,none⟩=some (.pointer (some ⟨p,0,none⟩)):=HJ2.out.i.hl.blk.cellS rfl;have e1:w6.cell? ⟨h,1,none⟩=some (.int .i64 t):=HJ2.out.i.hl.blk.cellS rfl;have y0:w6.cell? ⟨cb,0,none⟩=some (.int .i64 cx):=HJ2.out.cbl.cellS rfl;have y1:w6.cell? ⟨cb,1,none⟩=some (.int .i64 cy):=HJ2.out.cbl.cellS rfl))
          all_goals (
           clear c0 c1 x0 x1 e0 e1 y0 y1
           go_wp2_with fail
           go_meet
           exact ⟨rfl,rfl,HJ2.out⟩)
         case rest=>
          obtain ⟨rfl,rfl,hJ2⟩:=hcut
          have HJ2:=Lib.hid hJ2
          have c0:wc.cell? ⟨h,0,none⟩=some (.pointer (some ⟨p,0,none⟩)):=HJ2.out.i.hl.blk.cellS rfl
          have c1:wc.cell? ⟨h,1,none⟩=some (.int .i64 t):=HJ2.out.i.hl.blk.cellS rfl
          have HWR:Hid (∀W,Ar W p R' S' A'→Calls Tryz.prog 109 #[.pointer (some ⟨p,0,none⟩),.int .i64 t,.int .i64 r] W (WrapPost W p R' S' A' t P5 κ)):=fun W hW=>wrap_any W p R' S' A' hW t HL.out.ht P5 κ (by have:=HJ2.out.hi;omega) r (HJ2.out.i.has rfl)
          clear hJ2 HPT HJ x0 x1
          go_wp2_with fail
          go_cut [9,7] (fun tv ev wx=>∃(r2:Int) (S2:ArS) (A2:Nat→Abs) (R2:ArR) (bad2:Int),tv= .int .i64 r2∧ev= .int .i64 bad2∧SetJ w2 h p R H t d (.slice (some ⟨b,off,none⟩) H.Ws.length cap) kv y s5 (s5.take i5) P5 k5 (κ+1) (cx,cy) cb r2 S2 A2 R2 bad2 wx)
          case first=>
           go_region_held3 (fun w'=>w'.cell? ⟨h,0,none⟩=some (.pointer (some ⟨p,0,none⟩))∧w'.cell? ⟨h,1,none⟩=some (.int .i64 t))
            (first | (with_reducible exact ⟨c0,c1⟩) | (with_reducible exact ⟨e0,e1⟩) | go_keep)
            ((go_at_call 109;refine (HWR.out _ (by exact HJ2.out.i.hl.ar.below (Below.refl _ _).drew)).mono ?_;intro e w6 hq;obtain ⟨r2,S2,A2,R2,bad2,rfl,hm,hh,ha,hst⟩:=hq;have HJ3:=Lib.hid (HJ2.out.wrap HWK.out.1 (fun V hV=>(HSC.out V hV).1) HCO.out HIN.out hm hh ha ((StepH.of_below (Below.refl _ _).drew:StepH NoX p R' R' wc wc.drew).trans hst));clear hm hh ha hst;obtain ⟨v2,hv2⟩:∃v2,v2=(if bad2=0 then r2 else 0):=⟨_,rfl⟩;rw [←hv2] at HJ3 ⊢;clear hv2;have e0:w6.cell? ⟨h,0,none⟩=some (.pointer (some ⟨p,0,none⟩)):=HJ3.out.i.hl.blk.cellS rfl;have e1:w6.cell? ⟨h,1,none⟩=some (.int .i64 t):=HJ3.out.i.hl.blk.cellS rfl))
           all_goals (
            clear c0 c1 e0 e1
            go_wp2_with fail
            go_meet
            exact ⟨v2,S2,A2,R2,bad2,rfl,rfl,HJ3.out⟩)
          case rest=>
           obtain ⟨r2,S2,A2,R2,bad2,rfl,rfl,hJ3⟩:=hcut
           have HJ3:=Lib.hid hJ3
           clear hJ3 c0 c1 HJ2 HWR
           go_wp2_with fail
           have hgk:gk-1<gk:=by have:=HN.out;have:=HJ3.out.hi;omega
           have hgn:gk-1+(κ+1)=41:=by have:=HN.out;have:=HJ3.out.hi;omega
           go_roundg (gk-1)
           case measure=>exact hgk
           case rel=>exact ⟨κ+1,r2,S2,A2,R2,bad2,rfl,rfl,hgn,HJ3.out⟩
       ·have hb8:(bad==0)=false:=beq_eq_false_iff_ne.2 hb
        have HF:=Lib.hid (HJ.out.i.fail hb (s5.take (i5+1)) (setW y.P y.k (s5.take (i5+1))).1 (setW y.P y.k (s5.take (i5+1))).2 r)
        have HB:=Lib.hid hb
        clear hb
        go_wp2_with fail
        refine ⟨⟨i5+1,r,S',A',R',bad,rfl,rfl,by go_num,HLT.out,HF.out⟩,?_⟩
        simp [intOf];have:=HLT.out;omega
     ·obtain rfl:i5=m5:=by omega
      have HTK:Hid (s5.take i5=s5):=List.take_of_length_le (by have e:_=i5:=HLN.out;omega)
      rw [HTK.out] at HI
      have HLW:=Lib.hid HI.out.hl
      have HSW:Hid (HStep h p R (.slice (some ⟨b,off,none⟩) H.Ws.length cap) kv R' (.slice (some ⟨b,off,none⟩) H.Ws.length cap) kv w0 wr):=HS2.out.trans HI.out.st
      clear hlt hi5
      by_cases hb:bad=0
      ·subst hb
       have hw5:=setW_ok s5 HGY.out.supp HGY.out.ok HGY.out.k40 HOK5.out
       have HWX:Hid (WOk S' A' t {y with root:=r,P:=(setW y.P y.k s5).1,k:=(setW y.P y.k s5).2}):=⟨HI.out.has rfl,Nat.le_trans HGY.out.k1 hw5.2.2.2,hw5.2.2.1,hw5.1,hw5.2.1,HGY.out.rule,HGY.out.named⟩
       have hrt:=Hl.root HLW.out HY.out HWX.out
       rw [←Nat.add_assoc] at hrt
       obtain ⟨f1,hl5,hst5⟩:=hrt
       obtain ⟨b7,off7,cap7,hv7,_,_,_,d1,_,_⟩:=ws_cells HLW.out.ws HY.out
       injection hv7 with hv7 _ hcap7
       injection hv7 with hv7
       injection hv7 with hb7 ho7 _
       subst hb7
       subst ho7
       have HL5:=Lib.hid hl5
       have HS5':=Lib.hid (HSW.out.trans hst5)
       have HN5:=Lib.hid (HSL.out.keep HL.out HS5'.out HN0.out)
       have HGG:Hid (SetG H q t (An.zero 0) ⟨S',A',H.Ws.set i {y with root:=r,P:=(setW y.P y.k s5).1,k:=(setW y.P y.k s5).2},H.ser,H.K⟩):=⟨HX0.out,rfl,y,s5,r,by rw [HI'.out];exact HY.out,HTS.out,HI.out.gr,HI.out.told rfl,by rw [HI'.out],rfl,rfl⟩
       clear hw5 hl5 hst5 hcap7
       have zb:=HN5.out
       have z0:(wr.setCell ⟨b,off+i*4+1,none⟩ (.int .i64 r)).cell? ⟨w.heap.size+1,0,none⟩=some (.int .i64 0):=zb.cellS rfl
       have z1:(wr.setCell ⟨b,off+i*4+1,none⟩ (.int .i64 r)).cell? ⟨w.heap.size+1,1,none⟩=some (.int .i64 0):=zb.cellS rfl
       have z2:(wr.setCell ⟨b,off+i*4+1,none⟩ (.int .i64 r)).cell? ⟨w.heap.size+1,2,none⟩=some (.int .i64 0):=zb.cellS rfl
       have z3:(wr.setCell ⟨b,off+i*4+1,none⟩ (.int .i64 r)).cell? ⟨w.heap.size+1,3,none⟩=some (.int .i64 0):=zb.cellS rfl
       have z4:(wr.setCell ⟨b,off+i*4+1,none⟩ (.int .i64 r)).cell? ⟨w.heap.size+1,4,none⟩=some (.int .i64 0):=zb.cellS rfl
       have z5:(wr.setCell ⟨b,off+i*4+1,none⟩ (.int .i64 r)).cell? ⟨w.heap.size+1,5,none⟩=some (.int .i64 0):=zb.cellS rfl
       have z6:(wr.setCell ⟨b,off+i*4+1,none⟩ (.int .i64 r)).cell? ⟨w.heap.size+1,6,none⟩=some (.int .i64 0):=zb.cellS rfl
       have z7:(wr.setCell ⟨b,off+i*4+1,none⟩ (.int .i64 r)).cell? ⟨w.heap.size+1,7,none⟩=some (.int .i64 0):=zb.cellS rfl
       have z8:(wr.setCell ⟨b,off+i*4+1,none⟩ (.int .i64 r)).cell? ⟨w.heap.size+1,8,none⟩=some (.string ⟨#[]⟩):=zb.cellS rfl
       have z9:(wr.setCell ⟨b,off+i*4+1,none⟩ (.int .i64 r)).cell? ⟨w.heap.size+1,9,none⟩=some (.slice none 0 0):=zb.cellS rfl
       have zf0:=zb.frozen 0
       have zf1:=zb.frozen 1
       have zf2:=zb.frozen 2
       have zf3:=zb.frozen 3
       have zf4:=zb.frozen 4
       have zf5:=zb.frozen 5
       have zf6:=zb.frozen 6
       have zf7:=zb.frozen 7
       have zf8:=zb.frozen 8
       have zf9:=zb.frozen 9
       go_wp2_with fail
       have hbm:Blk (((((((((((wr.setCell ⟨b,off+i*4+1,none⟩ (.int .i64 r)).setCell ⟨w.heap.size+1,0,none⟩ (.int .i64 0)).setCell ⟨w.heap.size+1,1,none⟩ (.int .i64 0)).setCell ⟨w.heap.size+1,2,none⟩ (.int .i64 0)).setCell ⟨w.heap.size+1,3,none⟩ (.int .i64 0)).setCell ⟨w.heap.size+1,4,none⟩ (.int .i64 0)).setCell ⟨w.heap.size+1,5,none⟩ (.int .i64 0)).setCell ⟨w.heap.size+1,6,none⟩ (.int .i64 0)).setCell ⟨w.heap.size+1,7,none⟩ (.int .i64 0)).setCell ⟨w.heap.size+1,8,none⟩ (.string ⟨#[]⟩)).setCell ⟨w.heap.size+1,9,none⟩ (.slice none 0 0)) (w.heap.size+1) 57 (anC (An.zero 0) (.slice none 0 0))∧Mod (fun b=>b=w.heap.size+1) (wr.setCell ⟨b,off+i*4+1,none⟩ (.int .i64 r)) (((((((((((wr.setCell ⟨b,off+i*4+1,none⟩ (.int .i64 r)).setCell ⟨w.heap.size+1,0,none⟩ (.int .i64 0)).setCell ⟨w.heap.size+1,1,none⟩ (.int .i64 0)).setCell ⟨w.heap.size+1,2,none⟩ (.int .i64 0)).setCell ⟨w.heap.size+1,3,none⟩ (.int .i64 0)).setCell ⟨w.heap.size+1,4,none⟩ (.int .i64 0)).setCell ⟨w.heap.size+1,5,none⟩ (.int .i64 0)).setCell ⟨w.heap.size+1,6,none⟩ (.int .i64 0)).setCell ⟨w.heap.size+1,7,none⟩ (.int .i64 0)).setCell ⟨w.heap.size+1,8,none⟩ (.string ⟨#[]⟩)).setCell ⟨w.heap.size+1,9,none⟩ (.slice none 0 0)):=an_stored HN5.out (An.zero 0) (.slice none 0 0)
       obtain ⟨hbk,hmd⟩:=hbm
       generalize hWW:World.setCell _ _ _=WW at hbk hmd ⊢
       have k0:WW.cell? ⟨w.heap.size+1,0,none⟩=some (.int .i64 0):=hbk.cellS rfl
       have k1:WW.cell? ⟨w.heap.size+1,1,none⟩=some (.int .i64 0):=hbk.cellS rfl
       have k2:WW.cell? ⟨w.heap.size+1,2,none⟩=some (.int .i64 0):=hbk.cellS rfl
       have k3:WW.cell? ⟨w.heap.size+1,3,none⟩=some (.int .i64 0):=hbk.cellS rfl
       have k4:WW.cell? ⟨w.heap.size+1,4,none⟩=some (.int .i64 0):=hbk.cellS rfl
       have k5:WW.cell? ⟨w.heap.size+1,5,none⟩=some (.int .i64 0):=hbk.cellS rfl
       have k6:WW.cell? ⟨w.heap.size+1,6,none⟩=some (.int .i64 0):=hbk.cellS rfl
       have k7:WW.cell? ⟨w.heap.size+1,7,none⟩=some (.int .i64 0):=hbk.cellS rfl
       have k8:WW.cell? ⟨w.heap.size+1,8,none⟩=some (.string ⟨#[]⟩):=hbk.cellS rfl
       have k9:WW.cell? ⟨w.heap.size+1,9,none⟩=some (.slice none 0 0):=hbk.cellS rfl
       clear hWW hbk
       refine bodyPost_ret (v:= .tuple #[ansV (An.zero 0) (.slice none 0 0),.int .i64 0]) (by simp [results,Tryz.results72,go_sem,ansV,An.zero,k0,k1,k2,k3,k4,k5,k6,k7,k8,k9,str]) rfl ?_
       exact try_ok (H':=⟨S',A',H.Ws.set i {y with root:=r,P:=(setW y.P y.k s5).1,k:=(setW y.P y.k s5).2},H.ser,H.K⟩) HSL.out HL.out HS5'.out (by have e:=HL5.out;simpa only [List.length_set] using e) HI.out.gr.st.toOth rfl HGG.out (rd_none _) new_none hmd
      ·have hb8:(bad !=0)=true:=by simp [hb]
       have HBD:=Lib.hid hb
       have HNW:=Lib.hid (HSL.out.keep HL.out HSW.out HN0.out)
       have HF:Hid (SetF H q t bad ⟨S',A',H.Ws,H.ser,H.K⟩):= .inr ⟨HX0.out,y,s5,by rw [HI'.out];exact HY.out,HTS.out,HI.out.gr⟩
       have HST:Hid (St t H.S H.A S' A'):=HI.out.gr.st
       clear hb
       have zb:=HNW.out
       have z0:wr.cell? ⟨w.heap.size+1,0,none⟩=some (.int .i64 0):=zb.cellS rfl
       have z1:wr.cell? ⟨w.heap.size+1,1,none⟩=some (.int .i64 0):=zb.cellS rfl
       have z2:wr.cell? ⟨w.heap.size+1,2,none⟩=some (.int .i64 0):=zb.cellS rfl
       have z3:wr.cell? ⟨w.heap.size+1,3,none⟩=some (.int .i64 0):=zb.cellS rfl
       have z4:wr.cell? ⟨w.heap.size+1,4,none⟩=some (.int .i64 0):=zb.cellS rfl
       have z5:wr.cell? ⟨w.heap.size+1,5,none⟩=some (.int .i64 0):=zb.cellS rfl
       have z6:wr.cell? ⟨w.heap.size+1,6,none⟩=some (.int .i64 0):=zb.cellS rfl
       have z7:wr.cell? ⟨w.heap.size+1,7,none⟩=some (.int .i64 0):=zb.cellS rfl
       have z8:wr.cell? ⟨w.heap.size+1,8,none⟩=some (.string ⟨#[]⟩):=zb.cellS rfl
       have z9:wr.cell? ⟨w.heap.size+1,9,none⟩=some (.slice none 0 0):=zb.cellS rfl
       have zf0:=zb.frozen 0
       have zf1:=zb.frozen 1
       have zf2:=zb.frozen 2
       have zf3:=zb.frozen 3
       have zf4:=zb.frozen 4
       have zf5:=zb.frozen 5
       have zf6:=zb.frozen 6
       have zf7:=zb.frozen 7
       have zf8:=zb.frozen 8
       have zf9:=zb.frozen 9
       go_wp2_with fail
       obtain ⟨hbk,hmd⟩:=an_refused HNW.out 0
       generalize hWW:World.setCell _ _ _=WW at hbk hmd ⊢
       have k0:WW.cell? ⟨w.heap.size+1,0,none⟩=some (.int .i64 0):=hbk.cellS rfl
       have k1:WW.cell? ⟨w.heap.size+1,1,none⟩=some (.int .i64 0):=hbk.cellS rfl
       have k2:WW.cell? ⟨w.heap.size+1,2,none⟩=some (.int .i64 0):=hbk.cellS rfl
       have k3:WW.cell? ⟨w.heap.size+1,3,none⟩=some (.int .i64 0):=hbk.cellS rfl
       have k4:WW.cell? ⟨w.heap.size+1,4,none⟩=some (.int .i64 0):=hbk.cellS rfl
       have k5:WW.cell? ⟨w.heap.size+1,5,none⟩=some (.int .i64 0):=hbk.cellS rfl
       have k6:WW.cell? ⟨w.heap.size+1,6,none⟩=some (.int .i64 0):=hbk.cellS rfl
       have k7:WW.cell? ⟨w.heap.size+1,7,none⟩=some (.int .i64 0):=hbk.cellS rfl
       have k8:WW.cell? ⟨w.heap.size+1,8,none⟩=some (.string ⟨#[]⟩):=hbk.cellS rfl
       have k9:WW.cell? ⟨w.heap.size+1,9,none⟩=some (.slice none 0 0):=hbk.cellS rfl
       clear hWW hbk
       refine bodyPost_ret (v:= .tuple #[ansV (An.zero 0) (.slice none 0 0),.int .i64 bad]) (by simp [results,Tryz.results72,go_sem,ansV,An.zero,k0,k1,k2,k3,k4,k5,k6,k7,k8,k9,str]) rfl ?_
       exact try_no (H':=⟨S',A',H.Ws,H.ser,H.K⟩) HSL.out HL.out HSW.out HLW.out HST.out ⟨rfl,rfl,rfl⟩ HBD.out HF.out hmd
 ·have HX0:=Lib.hid hx0
  have hxb:(x !=0)=true:=by simp [hx0]
  have hxe:(x==0)=false:=beq_eq_false_iff_ne.2 hx0
  have HF:Hid (SetF H q t x H):= .inl ⟨by unfold setX;rw [if_pos (by rw [←HX.out];exact HX0.out)];exact HX.out.symm,rfl⟩
  clear hx0
  have zb:=HN1.out
  have z0:w1.cell? ⟨w.heap.size+1,0,none⟩=some (.int .i64 0):=zb.cellS rfl
  have z1:w1.cell? ⟨w.heap.size+1,1,none⟩=some (.int .i64 0):=zb.cellS rfl
  have z2:w1.cell? ⟨w.heap.size+1,2,none⟩=some (.int .i64 0):=zb.cellS rfl
  have z3:w1.cell? ⟨w.heap.size+1,3,none⟩=some (.int .i64 0):=zb.cellS rfl
  have z4:w1.cell? ⟨w.heap.size+1,4,none⟩=some (.int .i64 0):=zb.cellS rfl
  have z5:w1.cell? ⟨w.heap.size+1,5,none⟩=some (.int .i64 0):=zb.cellS rfl
  have z6:w1.cell? ⟨w.heap.size+1,6,none⟩=some (.int .i64 0):=zb.cellS rfl
  have z7:w1.cell? ⟨w.heap.size+1,7,none⟩=some (.int .i64 0):=zb.cellS rfl
  have z8:w1.cell? ⟨w.heap.size+1,8,none⟩=some (.string ⟨#[]⟩):=zb.cellS rfl
  have z9:w1.cell? ⟨w.heap.size+1,9,none⟩=some (.slice none 0 0):=zb.cellS rfl
  have zf0:=zb.frozen 0
  have zf1:=zb.frozen 1
  have zf2:=zb.frozen 2
  have zf3:=zb.frozen 3
  have zf4:=zb.frozen 4
  have zf5:=zb.frozen 5
  have zf6:=zb.frozen 6
  have zf7:=zb.frozen 7
  have zf8:=zb.frozen 8
  have zf9:=zb.frozen 9
  go_wp2_with fail
  obtain ⟨hbk,hmd⟩:=an_refused HN1.out 0
  generalize hWW:World.setCell _ _ _=WW at hbk hmd ⊢
  have k0:WW.cell? ⟨w.heap.size+1,0,none⟩=some (.int .i64 0):=hbk.cellS rfl
  have k1:WW.cell? ⟨w.heap.size+1,1,none⟩=some (.int .i64 0):=hbk.cellS rfl
  have k2:WW.cell? ⟨w.heap.size+1,2,none⟩=some (.int .i64 0):=hbk.cellS rfl
  have k3:WW.cell? ⟨w.heap.size+1,3,none⟩=some (.int .i64 0):=hbk.cellS rfl
  have k4:WW.cell? ⟨w.heap.size+1,4,none⟩=some (.int .i64 0):=hbk.cellS rfl
  have k5:WW.cell? ⟨w.heap.size+1,5,none⟩=some (.int .i64 0):=hbk.cellS rfl
  have k6:WW.cell? ⟨w.heap.size+1,6,none⟩=some (.int .i64 0):=hbk.cellS rfl
  have k7:WW.cell? ⟨w.heap.size+1,7,none⟩=some (.int .i64 0):=hbk.cellS rfl
  have k8:WW.cell? ⟨w.heap.size+1,8,none⟩=some (.string ⟨#[]⟩):=hbk.cellS rfl
  have k9:WW.cell? ⟨w.heap.size+1,9,none⟩=some (.slice none 0 0):=hbk.cellS rfl
  clear hWW hbk
  refine bodyPost_ret (v:= .tuple #[ansV (An.zero 0) (.slice none 0 0),.int .i64 x]) (by simp [results,Tryz.results72,go_sem,ansV,An.zero,k0,k1,k2,k3,k4,k5,k6,k7,k8,k9,str]) rfl ?_
  exact try_no HSL.out HL.out HS1.out HL1.out (St.refl HL.out.ar.rel t) ⟨rfl,rfl,rfl⟩ HX0.out HF.out hmd
end Go.Proofs.YthohnjgnpapnoaaGreatDoor
namespace Go.Proofs.YthohnjgnpapnoaaGreatDoor
open Go.RowKit
theorem wdsV_take (l:List WD) (i:Nat):(wdsV l).take (i*4)=wdsV (l.take i):=by
 induction l generalizing i with
 | nil=>simp [wdsV]
 | cons a l ih=>
   cases i with
   | zero=>simp [wdsV]
   | succ i=>
     have h:=ih i
     simp only [wdsV,List.flatMap_cons,List.take_succ_cons] at h ⊢
     rw [show (i+1)*4=i*4+1+1+1+1 by omega]
     simp only [wdV,List.cons_append,List.nil_append,List.take_succ_cons]
     rw [←h]
theorem wdsV_drop (l:List WD) (i:Nat):(wdsV l).drop (i*4)=wdsV (l.drop i):=by
 induction l generalizing i with
 | nil=>simp [wdsV]
 | cons a l ih=>
   cases i with
   | zero=>simp
   | succ i=>
     have h:=ih i
     simp only [wdsV,List.flatMap_cons,List.drop_succ_cons] at h ⊢
     rw [show (i+1)*4=i*4+1+1+1+1 by omega]
     simp only [wdV,List.cons_append,List.nil_append,List.drop_succ_cons]
     exact h
theorem Sl.pre {w:World} {t:TypeId} {sz b off n cap i:Nat} {xs:List Value} (h:Sl w t sz (.slice (some ⟨b,off,none⟩) n cap) n xs) (hi:i≤n):Sl w t sz (.slice (some ⟨b,off,none⟩) i i) i (xs.take (i*sz)):=by
 obtain ⟨h1,A,cap',e,c1,c2,c3,c4⟩:=h
 injection e with e1 _ e2
 subst e1;subst e2
 have hm:i*sz≤n*sz:=Nat.mul_le_mul_right _ hi
 refine ⟨by rw [List.length_take,h1];omega,_,_,rfl,Nat.le_refl _,by omega,(fun h=>nomatch h),fun a ha=>?_⟩
 obtain ⟨cs,d1,d2,d3,d4⟩:=c4 a ha
 have hm2:i*sz≤cap*sz:=Nat.mul_le_mul_right _ (by omega)
 refine ⟨cs,d1,d2,by omega,?_⟩
 rw [←d4,List.take_take]
 congr 1;omega
theorem Rd.suf {w:World} {B b off n cap i:Nat} {l:List WD} (h:Rd w B 4 (.slice (some ⟨b,off,none⟩) n cap) n (wdsV l)) (hi:i≤n):Rd w B 4 (.slice (some ⟨b,off+i*4,none⟩) (n-i) (cap-i)) (n-i) (wdsV (l.drop i)):=by
 obtain ⟨h1,A,cap',e,h2,h3,h4⟩:=h
 injection e with e1 _ e3
 subst e1 e3
 rw [←wdsV_drop]
 refine ⟨by rw [List.length_drop,h1];omega,_,_,rfl,by omega,by omega,fun hn=>?_⟩
 obtain ⟨b',off',e4,hb,hc⟩:=h4 (by omega)
 injection e4 with e4
 injection e4 with e5 e6 _
 subst e5 e6
 refine ⟨_,_,rfl,hb,fun j u hj=>?_⟩
 rw [List.getElem?_drop] at hj
 have:=hc _ u hj
 rwa [←Nat.add_assoc] at this
section
variable {w4 w6 : World} {h p t : Nat} {R : ArR} {S : ArS} {A : Nat → Abs} {d : Int} {Ws : List WD} {wv kv v' v0 : Value} {ser : Nat} {K : List KeyD} {i : Nat}
theorem erase_eq (Ws:List WD) (i:Nat):Ws.eraseIdx i=Ws.take i++Ws.drop (i+1):=by rw [List.eraseIdx_eq_take_drop_succ]
theorem Hl.less (H:Hl w4 h p R S A t d Ws wv ser K kv) (hi:i<Ws.length) (hv0:sblk v0=sblk wv) (hs6:Sl w6 137 4 v' (i+(Ws.length-(i+1))) (wdsV (Ws.take i)++wdsV (Ws.drop (i+1)))) (hm6:Mod (fun b=>sblk v0=some b) w4 w6)
 (hd6:sblk v'=sblk v0∨sblk v'=some w4.heap.size∧w4.heap.size<w6.heap.size):
 w6.cell? ⟨h,3,none⟩=some wv∧w6.frozen? ⟨h,3,none⟩=false∧Hl (w6.setCell ⟨h,3,none⟩ v') h p R S A t d (Ws.eraseIdx i) v' ser K kv∧HStep h p R wv kv R v' kv w4 (w6.setCell ⟨h,3,none⟩ v'):=by
 have m1:Mod (fun b=>sblk wv=some b) w4 w6:=hm6.mono fun b _ e=>hv0▸e
 have hb6:=H.blk.mod m1 (fun e=>(H.wno h e).2 rfl)
 have hnew:∀b,sblk v'=some b→sblk wv=some b∨w4.heap.size≤b:=fun b hb=>by
  rcases hd6 with e | ⟨e,_⟩
  ·exact .inl (by rw [←hv0,←e];exact hb)
  ·rw [e] at hb;injection hb with hb;exact .inr (by omega)
 have hno:∀b,sblk v'=some b→¬Own p R b∧b≠h:=fun b hb=>by
  rcases hnew b hb with k | k
  ·exact H.wno b k
  ·exact ⟨(H.new k).1,(H.new k).2.1⟩
 have hm:Mod (fun b=>b=h∨sblk wv=some b) w4 (w6.setCell ⟨h,3,none⟩ v'):=(m1.mono fun b _ e=> .inr e).set (p:=⟨h,3,none⟩) (fun _=> .inl rfl) _
 have hsub:∀y∈Ws.eraseIdx i,y∈Ws:=fun y hy=>List.mem_of_mem_eraseIdx hy
 have hlen:(Ws.eraseIdx i).length=i+(Ws.length-(i+1)):=by rw [List.length_eraseIdx,if_pos hi];omega
 refine ⟨hb6.cellS rfl,hb6.frozen 3,⟨⟨H.ar.arm.keep hm fun b hb e=>?_,H.ar.rel,H.ar.add⟩,H.ht,?_,H.no,?_,hno,H.ks.stepX hm fun b hb _ e=>?_,fun b hb=>?_,fun y hy=>H.good y (hsub y hy),?_,by rw [hlen];have:=H.len;omega,H.klen⟩,⟨hm.mono fun b _ e=> .inr e,fun _ h=> .inl h,hnew,fun _ h=> .inl h⟩⟩
 ·rcases e with e | e
  ·exact H.no (e▸hb)
  ·exact (H.wno b e).1 hb
 ·rw [←hlC_ws p t d wv v' ser kv]
  exact hb6.set 3 _
 ·have e:wdsV (Ws.eraseIdx i)=wdsV (Ws.take i)++wdsV (Ws.drop (i+1)):=by rw [erase_eq];simp [wdsV]
  rw [e,hlen]
  exact hs6.far (p:=⟨h,3,none⟩) (fun e=>(hno h e).2 rfl) _
 ·rcases e with e | e
  ·exact (H.kno b hb).2.2.1 e
  ·exact (H.kno b hb).2.2.2 e
 ·obtain ⟨g1,g2,g3,g4⟩:=H.kno b hb
  refine ⟨Nat.lt_of_lt_of_le g1 hm.size,g2,g3,fun e=>?_⟩
  rcases hnew b e with k | k
  ·exact g4 k
  ·omega
 ·exact H.nodup.sublist ((List.eraseIdx_sublist Ws i).map WD.name)
end
end Go.Proofs.YthohnjgnpapnoaaGreatDoor
