/- hall: lease. -/
import Derived.Test.YthohnjgnpapnoaaGreatDoorR21
import Derived.Test.YthohnjgnpapnoaaGreatDoorR2
import Derived.Deep.RegionLaw
set_option linter.unusedVariables false
set_option linter.unusedSimpArgs false
namespace Go.Proofs.YthohnjgnpapnoaaGreatDoor
open Go.RowKit
set_option maxRecDepth 100000 in
theorem mint_no (w:World) (s:Nat) (K:List KeyD) (n:Nat) (hn:n≤32) (kv:Value) (hk:Rd w w.heap.size 3 kv n (keysV K)) (name:ByteArray) (r d:Int) (hr:¬(1≤r∧r≤3)∨n=32) (hs:s<2147483648):
 Calls Tryz.prog 117 #[.agg #[.int .i64 s,kv],.string name,.int .i64 r,.int .i64 d] w fun e w'=>e= .returned (.tuple #[.agg #[.int .i64 0,.slice none 0 0],.string ⟨#[]⟩,.int .i64 (if 1≤r∧r≤3 then 5 else 3)])∧Below w.heap.size w w':=by
 obtain ⟨A,cap,rfl,hc1,hc2⟩:=hk.form
 have hs0:(0:Int)≤(s:Int):=by omega
 have hs1:(s:Int)<2147483648:=by omega
 have hne1:decide ((s:Int)<0)=false:=decide_eq_false (by omega)
 have hne2:decide ((2147483648:Int)≤(s:Int))=false:=decide_eq_false (by omega)
 have HR:=Lib.hid hr
 clear hk hc1 hc2 hn hs hr
 by_cases h1:1≤r
 ·have g1:decide (r<1)=false:=decide_eq_false (by omega)
  by_cases h2:r≤3
  ·obtain rfl:n=32:=HR.out.resolve_left fun q=>q ⟨h1,h2⟩
   rw [if_pos ⟨h1,h2⟩]
   have g2:decide (3<r)=false:=decide_eq_false (by omega)
   clear hs0 hs1
   go_enter Tryz.func117,Tryz.ntmps117
   go_wp2_with fail
   refine bodyPost_ret (v:= .tuple #[.agg #[.int .i64 0,.slice none 0 0],.string ⟨#[]⟩,.int .i64 5]) (by simp [results,Tryz.results117,go_sem]) rfl ?_
   exact ⟨rfl,(((Below.refl _ _).alloc (Nat.le_refl _) _).alloc (by simp) _)⟩
  ·rw [if_neg (fun h=>h2 h.2)]
   have g2:decide (3<r)=true:=decide_eq_true (by omega)
   clear h1 h2
   go_enter Tryz.func117,Tryz.ntmps117
   go_wp2_with fail
   refine bodyPost_ret (v:= .tuple #[.agg #[.int .i64 0,.slice none 0 0],.string ⟨#[]⟩,.int .i64 3]) (by simp [results,Tryz.results117,go_sem]) rfl ?_
   exact ⟨rfl,(((Below.refl _ _).alloc (Nat.le_refl _) _).alloc (by simp) _)⟩
 ·rw [if_neg (fun h=>h1 h.1)]
  have g1:decide (r<1)=true:=decide_eq_true (by omega)
  clear h1
  go_enter Tryz.func117,Tryz.ntmps117
  go_wp2_with fail
  refine bodyPost_ret (v:= .tuple #[.agg #[.int .i64 0,.slice none 0 0],.string ⟨#[]⟩,.int .i64 3]) (by simp [results,Tryz.results117,go_sem]) rfl ?_
  exact ⟨rfl,(((Below.refl _ _).alloc (Nat.le_refl _) _).alloc (by simp) _)⟩
def leaseK (H:HS) (q:SReq) (d:Int):KeyD:=⟨mintT H.ser d,str q.name,q.n⟩
def leaseX (H:HS) (q:SReq):Int:=
 if keyedW q.name then 10 else if (hfind H.Ws H.K q.name 0).2≠0 then (hfind H.Ws H.K q.name 0).2 else if 1≤q.n∧q.n≤3 then (if H.K.length=32 then 5 else 0) else 3
def LeaseF (H:HS) (q:SReq) (x:Int) (H':HS):Prop:=x=leaseX H q∧H'=H
def LeaseG (H:HS) (q:SReq) (d:Int) (a:An) (H':HS):Prop:=leaseX H q=0∧a={An.zero 0 with key:=mintT H.ser d}∧H'={H with ser:=H.ser+1,K:=H.K++ [leaseK H q d]}
set_option maxRecDepth 100000 in
set_option maxHeartbeats 3200000 in
theorem lease_any (w:World) (h p:Nat) (R:ArR) (H:HS) (t:Nat) (d:Int) (wv kv:Value) (HH:Hl w h p R H.S H.A t d H.Ws wv H.ser H.K kv) (q:SReq) (qA:Option Addr) (qn qcap:Nat) (hn:q.name.length≤4294967296) (hser:H.ser<100) (g:w.cell? ⟨4,15,none⟩=some (.int .u8 4)):
 Calls Tryz.prog 78 #[.pointer (some ⟨h,0,none⟩),reqV q (.slice qA qn qcap)] w (TryP w h p R H t d wv kv (LeaseF H q) (LeaseG H q d)):=by
 have HL:=Lib.hid HH
 have HG:=Lib.hid g
 have HKY:=Lib.hid (fun w=>keyedS_any w q.name hn)
 have HFN:=Lib.hid (fun w1 (h1:HlR w1 h p t d H.Ws wv H.ser H.K kv)=>hfind_any w1 h p t d H.Ws wv H.ser H.K kv h1 q.name hn 0)
 clear HH g
 unfold reqV
 go_enter Tryz.func78,Tryz.ntmps78
 go_wp2_with fail
 generalize hw0:World.alloc (World.alloc w _) _=w0
 obtain ⟨s1,q0,n0,s0⟩:=slots w q (.slice qA qn qcap) (w0:=w0) hw0
 have HSL:=Lib.hid s1
 have HQ0:=Lib.hid q0
 have HN0:=Lib.hid n0
 have HSQ:=Lib.hid s0
 have HL0:=Lib.hid (HL.out.below s1.bel)
 clear hw0 s1 q0 n0 s0
 (with_reducible refine (HKY.out _).mono ?_)
 rintro e wq ⟨rfl,rfl⟩
 cases hk:keyedW q.name
 ·have HK:=Lib.hid hk
  clear hk HKY
  have q1:w0.cell? ⟨w.heap.size,1,none⟩=some (.string (str q.name)):=HQ0.out.cellS rfl
  go_wp2_with fail
  (with_reducible refine (HFN.out _ HL0.out.r).mono ?_)
  rintro e w1 ⟨ptr,rfl,hb1,_,_⟩
  have HL1:=Lib.hid (HL0.out.below hb1)
  have HS1:Hid (HStep h p R wv kv R wv kv w0 w1):=HStep.arena (StepH.of_below hb1)
  have HN1:=Lib.hid (HSL.out.keep HL.out HS1.out HN0.out)
  have HQ1:=Lib.hid (HSQ.out.keep HL.out HS1.out HQ0.out)
  have HG1:Hid (w1.cell? ⟨4,15,none⟩=some (.int .u8 4)):=((HSL.out.bel.trans (hb1.mono HSL.out.bel.size)).cell (p:=⟨4,15,none⟩) (World.block_lt_of_cell? w _ HG.out)).trans HG.out
  clear hb1 HFN q1
  obtain ⟨x,hx⟩:∃x,x=(hfind H.Ws H.K q.name 0).2:=⟨_,rfl⟩
  rw [←hx]
  have HX:=Lib.hid hx
  clear hx
  by_cases hx0:x=0
  ·subst hx0
   by_cases hr:1≤q.n∧q.n≤3
   ·by_cases hk32:H.K.length=32
    ·skip
     have HMT:Hid (∀wx:World,Rd wx wx.heap.size 3 kv H.K.length (keysV H.K)→Calls Tryz.prog 117 #[.agg #[.int .i64 H.ser,kv],.string (str q.name),.int .i64 q.n,.int .i64 d] wx fun e w'=>e= .returned (.tuple #[.agg #[.int .i64 0,.slice none 0 0],.string ⟨#[]⟩,.int .i64 5])∧Below wx.heap.size wx w'):=fun wx hx=>by
      have hq:=mint_no wx H.ser H.K H.K.length HL1.out.klen kv hx (str q.name) q.n d (.inr hk32) (by omega)
      rw [if_pos hr] at hq
      exact hq
     have HF:Hid (LeaseF H q 5 H):=⟨by unfold leaseX;rw [if_neg (by rw [HK.out];decide),if_neg (by rw [←HX.out];decide),if_pos hr,if_pos hk32],rfl⟩
     clear hr hk32
     have HGX:=Lib.hid HG1.out
     go_wp2_with fail
     have hbt:Below w1.heap.size w1 (w1.alloc (.cells #[.int .i64 0,.slice none 0 0] 102)):=(Below.refl _ _).alloc (Nat.le_refl _) _
     have HTB:Hid (Blk (w1.alloc (.cells #[.int .i64 0,.slice none 0 0] 102)) w1.heap.size 102 #[.int .i64 0,.slice none 0 0]):=Blk.new _ _ _
     have HLT:=Lib.hid (HL1.out.below hbt)
     have HST:=Lib.hid (HS1.out.below hbt)
     have HQT:=Lib.hid (HSQ.out.keep HL.out HST.out HQ0.out)
     have HGT:Hid ((w1.alloc (.cells #[.int .i64 0,.slice none 0 0] 102)).cell? ⟨4,15,none⟩=some (.int .u8 4)):=(hbt.cell (p:=⟨4,15,none⟩) (World.block_lt_of_cell? w1 _ HGX.out)).trans HGX.out
     have HTL:=Lib.hid HTB.out.lt
     have HBT:=Lib.hid hbt
     clear hbt
     have q1:w1.cell? ⟨w.heap.size,1,none⟩=some (.string (str q.name)):=HQ1.out.cellS rfl
     have q5:w1.cell? ⟨w.heap.size,5,none⟩=some (.int .i64 q.n):=HQ1.out.cellS rfl
     have t2:w1.cell? ⟨h,2,none⟩=some (.int .i64 d):=HL1.out.blk.cellS rfl
     have t4:w1.cell? ⟨h,4,none⟩=some (.int .i64 H.ser):=HL1.out.blk.cellS rfl
     have t5:w1.cell? ⟨h,5,none⟩=some kv:=HL1.out.blk.cellS rfl
     have u2:(w1.alloc (.cells #[.int .i64 0,.slice none 0 0] 102)).cell? ⟨h,2,none⟩=some (.int .i64 d):=HLT.out.blk.cellS rfl
     have u4:(w1.alloc (.cells #[.int .i64 0,.slice none 0 0] 102)).cell? ⟨h,4,none⟩=some (.int .i64 H.ser):=HLT.out.blk.cellS rfl
     have u5:(w1.alloc (.cells #[.int .i64 0,.slice none 0 0] 102)).cell? ⟨h,5,none⟩=some kv:=HLT.out.blk.cellS rfl
     have p1:(w1.alloc (.cells #[.int .i64 0,.slice none 0 0] 102)).cell? ⟨w.heap.size,1,none⟩=some (.string (str q.name)):=HQT.out.cellS rfl
     have p5:(w1.alloc (.cells #[.int .i64 0,.slice none 0 0] 102)).cell? ⟨w.heap.size,5,none⟩=some (.int .i64 q.n):=HQT.out.cellS rfl
     have HLB:=Lib.hid HL1.out.blk.lt
     have NEH:Hid (h≠w1.heap.size):=fun e=>by have:=HLB.out;omega
     have HLBT:=Lib.hid HLT.out.blk.lt
     have HQB:=Lib.hid HQ1.out.lt
     have NEQ:Hid (w.heap.size≠w1.heap.size):=fun e=>by have:=HQB.out;omega
     have HQBT:=Lib.hid HQT.out.lt
     go_region_held3 (fun w'=>w'.cell? ⟨h,2,none⟩=some (.int .i64 d)∧w'.cell? ⟨h,4,none⟩=some (.int .i64 H.ser)∧w'.cell? ⟨h,5,none⟩=some kv∧w'.cell? ⟨w.heap.size,1,none⟩=some (.string (str q.name))∧w'.cell? ⟨w.heap.size,5,none⟩=some (.int .i64 q.n))
      (first | (with_reducible exact ⟨t2,t4,t5,q1,q5⟩) | (with_reducible exact ⟨u2,u4,u5,p1,p5⟩) | (with_reducible exact ⟨v2,v4,v5,y1,y5⟩) | (with_reducible exact ⟨cell_far NEH.out (cell_far NEH.out v2),cell_far NEH.out (cell_far NEH.out v4),cell_far NEH.out (cell_far NEH.out v5),cell_far NEQ.out (cell_far NEQ.out y1),cell_far NEQ.out (cell_far NEQ.out y5)⟩) | go_keep)
      (first | (go_at_call 117;refine (HMT.out _ (by exact HL1.out.ks)).mono ?_;rintro e w2 ⟨rfl,hb2'⟩;have v2:w2.cell? ⟨h,2,none⟩=some (.int .i64 d):=(hb2'.cell (p:=⟨h,2,none⟩) HLB.out).trans t2;have v4:w2.cell? ⟨h,4,none⟩=some (.int .i64 H.ser):=(hb2'.cell (p:=⟨h,4,none⟩) HLB.out).trans t4;have v5:w2.cell? ⟨h,5,none⟩=some kv:=(hb2'.cell (p:=⟨h,5,none⟩) HLB.out).trans t5;have y1:w2.cell? ⟨w.heap.size,1,none⟩=some (.string (str q.name)):=(hb2'.cell (p:=⟨w.heap.size,1,none⟩) HQB.out).trans q1;have y5:w2.cell? ⟨w.heap.size,5,none⟩=some (.int .i64 q.n):=(hb2'.cell (p:=⟨w.heap.size,5,none⟩) HQB.out).trans q5) | (go_at_call 117;refine (HMT.out _ (by exact HLT.out.ks)).mono ?_;rintro e w2 ⟨rfl,hb2'⟩;have v2:w2.cell? ⟨h,2,none⟩=some (.int .i64 d):=(hb2'.cell (p:=⟨h,2,none⟩) HLBT.out).trans u2;have v4:w2.cell? ⟨h,4,none⟩=some (.int .i64 H.ser):=(hb2'.cell (p:=⟨h,4,none⟩) HLBT.out).trans u4;have v5:w2.cell? ⟨h,5,none⟩=some kv:=(hb2'.cell (p:=⟨h,5,none⟩) HLBT.out).trans u5;have y1:w2.cell? ⟨w.heap.size,1,none⟩=some (.string (str q.name)):=(hb2'.cell (p:=⟨w.heap.size,1,none⟩) HQBT.out).trans p1;have y5:w2.cell? ⟨w.heap.size,5,none⟩=some (.int .i64 q.n):=(hb2'.cell (p:=⟨w.heap.size,5,none⟩) HQBT.out).trans p5;have tb2:Blk w2 w1.heap.size 102 #[.int .i64 0,.slice none 0 0]:=(hb2'.block _ HTL.out).trans HTB.out;have e0:w2.cell? ⟨w1.heap.size,0,none⟩=some (.int .i64 0):=tb2.cellS rfl;have e1:w2.cell? ⟨w1.heap.size,1,none⟩=some (.slice none 0 0):=tb2.cellS rfl;have g0:=tb2.frozen 0;have g1:=tb2.frozen 1))
     all_goals first
      | (generalize hw3:World.setCell (World.setCell w2 _ _) _ _=w3
         have hb2:Below (w1.alloc (.cells #[.int .i64 0,.slice none 0 0] 102)).heap.size (w1.alloc (.cells #[.int .i64 0,.slice none 0 0] 102)) w2:=⟨hb2'.os,hb2'.tape,hb2'.output,hb2'.size,hb2'.block⟩
         have hb3:Below w1.heap.size w1 w3:=by subst hw3;exact ((HBT.out.trans (hb2.mono HBT.out.size)).setCell (Nat.le_refl _) _).setCell (Nat.le_refl _) _
         clear hw3 hb2 tb2 e0 e1 g0 g1)
      | (generalize hw3:World.alloc w2 _=w3
         have hb2:Below w1.heap.size w1 w2:=⟨hb2'.os,hb2'.tape,hb2'.output,hb2'.size,hb2'.block⟩
         have hb3:Below w1.heap.size w1 w3:=by subst hw3;exact hb2.alloc hb2.size _
         clear hw3 hb2)
     all_goals (
      have HS2:=Lib.hid (HS1.out.below hb3)
      have HL2:=Lib.hid (HL1.out.below hb3)
      have HN2:=Lib.hid (HSL.out.keep HL.out HS2.out HN0.out)
      clear hb2' hb3 t2 t4 t5 q1 q5 u2 u4 u5 p1 p5 v2 v4 v5 y1 y5 HLB HLBT HQB HQBT NEH NEQ HLT HST HQT HGT HGX HTB HTL HBT HMT
      have zb:=HN2.out
      have z0:w3.cell? ⟨w.heap.size+1,0,none⟩=some (.int .i64 0):=zb.cellS rfl
      have z1:w3.cell? ⟨w.heap.size+1,1,none⟩=some (.int .i64 0):=zb.cellS rfl
      have z2:w3.cell? ⟨w.heap.size+1,2,none⟩=some (.int .i64 0):=zb.cellS rfl
      have z3:w3.cell? ⟨w.heap.size+1,3,none⟩=some (.int .i64 0):=zb.cellS rfl
      have z4:w3.cell? ⟨w.heap.size+1,4,none⟩=some (.int .i64 0):=zb.cellS rfl
      have z5:w3.cell? ⟨w.heap.size+1,5,none⟩=some (.int .i64 0):=zb.cellS rfl
      have z6:w3.cell? ⟨w.heap.size+1,6,none⟩=some (.int .i64 0):=zb.cellS rfl
      have z7:w3.cell? ⟨w.heap.size+1,7,none⟩=some (.int .i64 0):=zb.cellS rfl
      have z8:w3.cell? ⟨w.heap.size+1,8,none⟩=some (.string ⟨#[]⟩):=zb.cellS rfl
      have z9:w3.cell? ⟨w.heap.size+1,9,none⟩=some (.slice none 0 0):=zb.cellS rfl
      have zf0:=zb.frozen 0
      have zf1:=zb.frozen 1
      have zf2:=zb.frozen 2
      have zf3:=zb.frozen 3
      have zf4:=zb.frozen 4
      have zf5:=zb.frozen 5
      have zf6:=zb.frozen 6
      have zf7:=zb.frozen 7
      have zf8:=zb.frozen 8
      have zf9:=zb.frozen 9
      go_wp2_with fail
      obtain ⟨hbk,hmd⟩:=an_refused HN2.out 0
      generalize hWW:World.setCell _ _ _=WW at hbk hmd ⊢
      have k0:WW.cell? ⟨w.heap.size+1,0,none⟩=some (.int .i64 0):=hbk.cellS rfl
      have k1:WW.cell? ⟨w.heap.size+1,1,none⟩=some (.int .i64 0):=hbk.cellS rfl
      have k2:WW.cell? ⟨w.heap.size+1,2,none⟩=some (.int .i64 0):=hbk.cellS rfl
      have k3:WW.cell? ⟨w.heap.size+1,3,none⟩=some (.int .i64 0):=hbk.cellS rfl
      have k4:WW.cell? ⟨w.heap.size+1,4,none⟩=some (.int .i64 0):=hbk.cellS rfl
      have k5:WW.cell? ⟨w.heap.size+1,5,none⟩=some (.int .i64 0):=hbk.cellS rfl
      have k6:WW.cell? ⟨w.heap.size+1,6,none⟩=some (.int .i64 0):=hbk.cellS rfl
      have k7:WW.cell? ⟨w.heap.size+1,7,none⟩=some (.int .i64 0):=hbk.cellS rfl
      have k8:WW.cell? ⟨w.heap.size+1,8,none⟩=some (.string ⟨#[]⟩):=hbk.cellS rfl
      have k9:WW.cell? ⟨w.heap.size+1,9,none⟩=some (.slice none 0 0):=hbk.cellS rfl
      clear hWW hbk
      refine bodyPost_ret (v:= .tuple #[ansV (An.zero 0) (.slice none 0 0),.int .i64 5]) (by simp [results,Tryz.results78,go_sem,ansV,An.zero,k0,k1,k2,k3,k4,k5,k6,k7,k8,k9,str]) rfl ?_
      exact try_no HSL.out HL.out HS2.out HL2.out (St.refl HL.out.ar.rel t) ⟨rfl,rfl,rfl⟩ (by decide) HF.out hmd
      skip)
    ·skip
     have hlt:H.K.length<32:=by have:=HL1.out.klen;omega
     have HMT:Hid (∀wx:World,Rd wx wx.heap.size 3 kv H.K.length (keysV H.K)→wx.cell? ⟨4,15,none⟩=some (.int .u8 4)→Calls Tryz.prog 117 #[.agg #[.int .i64 H.ser,kv],.string (str q.name),.int .i64 q.n,.int .i64 d] wx (MintPost wx H.ser H.K.length H.K (str q.name) q.n d)):=fun wx hx hg=>mint_any wx H.ser hser H.K.length hlt H.K kv hx (str q.name) q.n d hr hg
     have HR0:Hid (leaseX H q=0):=by unfold leaseX;show _=_;rw [if_neg (by rw [HK.out];decide),if_neg (by rw [←HX.out];decide),if_pos hr,if_neg hk32]
     have HKT:=Lib.hid hlt
     clear hr hk32 hlt hser
     have HGX:=Lib.hid HG1.out
     go_wp2_with fail
     have hbt:Below w1.heap.size w1 (w1.alloc (.cells #[.int .i64 0,.slice none 0 0] 102)):=(Below.refl _ _).alloc (Nat.le_refl _) _
     have HTB:Hid (Blk (w1.alloc (.cells #[.int .i64 0,.slice none 0 0] 102)) w1.heap.size 102 #[.int .i64 0,.slice none 0 0]):=Blk.new _ _ _
     have HLT:=Lib.hid (HL1.out.below hbt)
     have HST:=Lib.hid (HS1.out.below hbt)
     have HQT:=Lib.hid (HSQ.out.keep HL.out HST.out HQ0.out)
     have HGT:Hid ((w1.alloc (.cells #[.int .i64 0,.slice none 0 0] 102)).cell? ⟨4,15,none⟩=some (.int .u8 4)):=(hbt.cell (p:=⟨4,15,none⟩) (World.block_lt_of_cell? w1 _ HGX.out)).trans HGX.out
     have HTL:=Lib.hid HTB.out.lt
     have HBT:=Lib.hid hbt
     clear hbt
     have q1:w1.cell? ⟨w.heap.size,1,none⟩=some (.string (str q.name)):=HQ1.out.cellS rfl
     have q5:w1.cell? ⟨w.heap.size,5,none⟩=some (.int .i64 q.n):=HQ1.out.cellS rfl
     have t2:w1.cell? ⟨h,2,none⟩=some (.int .i64 d):=HL1.out.blk.cellS rfl
     have t4:w1.cell? ⟨h,4,none⟩=some (.int .i64 H.ser):=HL1.out.blk.cellS rfl
     have t5:w1.cell? ⟨h,5,none⟩=some kv:=HL1.out.blk.cellS rfl
     have u2:(w1.alloc (.cells #[.int .i64 0,.slice none 0 0] 102)).cell? ⟨h,2,none⟩=some (.int .i64 d):=HLT.out.blk.cellS rfl
     have u4:(w1.alloc (.cells #[.int .i64 0,.slice none 0 0] 102)).cell? ⟨h,4,none⟩=some (.int .i64 H.ser):=HLT.out.blk.cellS rfl
     have u5:(w1.alloc (.cells #[.int .i64 0,.slice none 0 0] 102)).cell? ⟨h,5,none⟩=some kv:=HLT.out.blk.cellS rfl
     have p1:(w1.alloc (.cells #[.int .i64 0,.slice none 0 0] 102)).cell? ⟨w.heap.size,1,none⟩=some (.string (str q.name)):=HQT.out.cellS rfl
     have p5:(w1.alloc (.cells #[.int .i64 0,.slice none 0 0] 102)).cell? ⟨w.heap.size,5,none⟩=some (.int .i64 q.n):=HQT.out.cellS rfl
     have HLB:=Lib.hid HL1.out.blk.lt
     have NEH:Hid (h≠w1.heap.size):=fun e=>by have:=HLB.out;omega
     have HLBT:=Lib.hid HLT.out.blk.lt
     have HQB:=Lib.hid HQ1.out.lt
     have NEQ:Hid (w.heap.size≠w1.heap.size):=fun e=>by have:=HQB.out;omega
     have HQBT:=Lib.hid HQT.out.lt
     go_region_held3 (fun w'=>w'.cell? ⟨h,2,none⟩=some (.int .i64 d)∧w'.cell? ⟨h,4,none⟩=some (.int .i64 H.ser)∧w'.cell? ⟨h,5,none⟩=some kv∧w'.cell? ⟨w.heap.size,1,none⟩=some (.string (str q.name))∧w'.cell? ⟨w.heap.size,5,none⟩=some (.int .i64 q.n))
      (first | (with_reducible exact ⟨t2,t4,t5,q1,q5⟩) | (with_reducible exact ⟨u2,u4,u5,p1,p5⟩) | (with_reducible exact ⟨v2,v4,v5,y1,y5⟩) | (with_reducible exact ⟨cell_far NEH.out (cell_far NEH.out v2),cell_far NEH.out (cell_far NEH.out v4),cell_far NEH.out (cell_far NEH.out v5),cell_far NEQ.out (cell_far NEQ.out y1),cell_far NEQ.out (cell_far NEQ.out y5)⟩) | go_keep)
      (first | (go_at_call 117;refine (HMT.out _ (by exact HL1.out.ks) (by exact HG1.out)).mono ?_;rintro e w2 ⟨hh,v2,he,_,_,rfl,hsl,hfr,hb2'⟩;obtain ⟨kA,kcap,hv2,_,_⟩:=hsl.form;subst hv2;have v2:w2.cell? ⟨h,2,none⟩=some (.int .i64 d):=(hb2'.cell (p:=⟨h,2,none⟩) HLB.out).trans t2;have v4:w2.cell? ⟨h,4,none⟩=some (.int .i64 H.ser):=(hb2'.cell (p:=⟨h,4,none⟩) HLB.out).trans t4;have v5:w2.cell? ⟨h,5,none⟩=some kv:=(hb2'.cell (p:=⟨h,5,none⟩) HLB.out).trans t5;have y1:w2.cell? ⟨w.heap.size,1,none⟩=some (.string (str q.name)):=(hb2'.cell (p:=⟨w.heap.size,1,none⟩) HQB.out).trans q1;have y5:w2.cell? ⟨w.heap.size,5,none⟩=some (.int .i64 q.n):=(hb2'.cell (p:=⟨w.heap.size,5,none⟩) HQB.out).trans q5) | (go_at_call 117;refine (HMT.out _ (by exact HLT.out.ks) (by exact HGT.out)).mono ?_;rintro e w2 ⟨hh,v2,he,_,_,rfl,hsl,hfr,hb2'⟩;obtain ⟨kA,kcap,hv2,_,_⟩:=hsl.form;subst hv2;have v2:w2.cell? ⟨h,2,none⟩=some (.int .i64 d):=(hb2'.cell (p:=⟨h,2,none⟩) HLBT.out).trans u2;have v4:w2.cell? ⟨h,4,none⟩=some (.int .i64 H.ser):=(hb2'.cell (p:=⟨h,4,none⟩) HLBT.out).trans u4;have v5:w2.cell? ⟨h,5,none⟩=some kv:=(hb2'.cell (p:=⟨h,5,none⟩) HLBT.out).trans u5;have y1:w2.cell? ⟨w.heap.size,1,none⟩=some (.string (str q.name)):=(hb2'.cell (p:=⟨w.heap.size,1,none⟩) HQBT.out).trans p1;have y5:w2.cell? ⟨w.heap.size,5,none⟩=some (.int .i64 q.n):=(hb2'.cell (p:=⟨w.heap.size,5,none⟩) HQBT.out).trans p5;have tb2:Blk w2 w1.heap.size 102 #[.int .i64 0,.slice none 0 0]:=(hb2'.block _ HTL.out).trans HTB.out;have e0:w2.cell? ⟨w1.heap.size,0,none⟩=some (.int .i64 0):=tb2.cellS rfl;have e1:w2.cell? ⟨w1.heap.size,1,none⟩=some (.slice none 0 0):=tb2.cellS rfl;have g0:=tb2.frozen 0;have g1:=tb2.frozen 1))
     all_goals first
      | (generalize hw3:World.setCell (World.setCell w2 _ _) _ _=w3
         have hb2:Below (w1.alloc (.cells #[.int .i64 0,.slice none 0 0] 102)).heap.size (w1.alloc (.cells #[.int .i64 0,.slice none 0 0] 102)) w2:=⟨hb2'.os,hb2'.tape,hb2'.output,hb2'.size,hb2'.block⟩
         have hb3:Below w1.heap.size w1 w3:=by subst hw3;exact ((HBT.out.trans (hb2.mono HBT.out.size)).setCell (Nat.le_refl _) _).setCell (Nat.le_refl _) _
         have HT3:Hid (Blk w3 w1.heap.size 102 #[.int .i64 ((H.ser:Int)+1),.slice kA (H.K.length+1) kcap]):=by subst hw3;exact (tb2.set 0 _).set 1 _
         have hsl3:Sl w3 241 3 (.slice kA (H.K.length+1) kcap) (H.K.length+1) (keysV (H.K++ [⟨keyT H.ser hh,str q.name,q.n⟩])):=by
          subst hw3
          have hne:sblk (.slice kA (H.K.length+1) kcap)≠some w1.heap.size:=fun e=>by have h1:=hfr _ e;have h2:=HTL.out;have h3:(w1.alloc (.cells #[.int .i64 0,.slice none 0 0] 102)).drew.heap.size=(w1.alloc (.cells #[.int .i64 0,.slice none 0 0] 102)).heap.size:=rfl;omega
          exact (hsl.far (p:=⟨w1.heap.size,0,none⟩) hne _).far (p:=⟨w1.heap.size,1,none⟩) hne _
         have hfr3:∀b,sblk (.slice kA (H.K.length+1) kcap)=some b→w1.heap.size≤b:=fun b hb=>Nat.le_trans HBT.out.size (hfr b hb)
         generalize w1.heap.size=tbk at HT3 ⊢
         clear hw3 hb2 tb2 e0 e1 g0 g1)
      | (generalize hw3:World.alloc w2 _=w3
         have hb2:Below w1.heap.size w1 w2:=⟨hb2'.os,hb2'.tape,hb2'.output,hb2'.size,hb2'.block⟩
         have hb3:Below w1.heap.size w1 w3:=by subst hw3;exact hb2.alloc hb2.size _
         have HT3:Hid (Blk w3 w2.heap.size 102 #[.int .i64 ((H.ser:Int)+1),.slice kA (H.K.length+1) kcap]):=by subst hw3;exact Blk.new _ _ _
         have hsl3:Sl w3 241 3 (.slice kA (H.K.length+1) kcap) (H.K.length+1) (keysV (H.K++ [⟨keyT H.ser hh,str q.name,q.n⟩])):=by subst hw3;exact hsl.alloc _
         have hfr3:∀b,sblk (.slice kA (H.K.length+1) kcap)=some b→w1.heap.size≤b:=hfr
         generalize w2.heap.size=tbk at HT3 ⊢
         clear hw3 hb2)
     all_goals (
      have HS2:=Lib.hid (HS1.out.below hb3)
      have HL2:=Lib.hid (HL1.out.below hb3)
      have HN2:=Lib.hid (HSL.out.keep HL.out HS2.out HN0.out)
      clear hb2' hb3 t2 t4 t5 q1 q5 u2 u4 u5 p1 p5 v2 v4 v5 y1 y5 HLB HLBT HQB HQBT NEH NEQ HLT HST HQT HGT HGX HTB HTL HBT HMT hsl hfr
      subst he
      have hke:H.K++ [⟨keyT H.ser (hexL (mixV (H.ser:Int) d).toNat []),str q.name,q.n⟩]=H.K++ [leaseK H q d]:=rfl
      rw [hke] at hsl3
      have htx:keyT H.ser (hexL (mixV (H.ser:Int) d).toNat [])=mintT H.ser d:=rfl
      rw [htx]
      have hkl:H.K.length+1=(H.K++ [leaseK H q d]).length:=by rw [List.length_append,List.length_singleton]
      have HKY2:Hid (Hl ((w3.setCell ⟨h,4,none⟩ (.int .i64 ((H.ser+1:Nat):Int))).setCell ⟨h,5,none⟩ (.slice kA (H.K.length+1) kcap)) h p R H.S H.A t d H.Ws wv (H.ser+1) (H.K++ [leaseK H q d]) (.slice kA (H.K.length+1) kcap)∧Mod (fun b=>b=h) w3 ((w3.setCell ⟨h,4,none⟩ (.int .i64 ((H.ser+1:Nat):Int))).setCell ⟨h,5,none⟩ (.slice kA (H.K.length+1) kcap))):=
       HL2.out.keys (by rw [←hkl];exact hsl3.rd) (fun b hb=>⟨(hsl3.lt hb).1,(HL1.out.new (hfr3 b hb)).1,(HL1.out.new (hfr3 b hb)).2.1,(HL1.out.new (hfr3 b hb)).2.2.1⟩) (by rw [←hkl];exact HKT.out)
      have HS3:Hid (HStep h p R wv kv R wv (.slice kA (H.K.length+1) kcap) w0 ((w3.setCell ⟨h,4,none⟩ (.int .i64 ((H.ser+1:Nat):Int))).setCell ⟨h,5,none⟩ (.slice kA (H.K.length+1) kcap))):=
       ⟨HS2.out.mod.trans HKY2.out.2 fun b _ e=> .inr (.inl e),HS2.out.own,HS2.out.nw,fun b hb=> .inr (Nat.le_trans HS1.out.mod.size (hfr3 b hb))⟩
      have hn3:Blk ((w3.setCell ⟨h,4,none⟩ (.int .i64 ((H.ser:Int)+1))).setCell ⟨h,5,none⟩ (.slice kA (H.K.length+1) kcap)) (w.heap.size+1) 57 (anC (An.zero 0) (.slice none 0 0)):=HSL.out.keep HL.out HS3.out HN0.out
      have HN3:=Lib.hid hn3
      have y0:w3.cell? ⟨tbk,0,none⟩=some (.int .i64 ((H.ser:Int)+1)):=HT3.out.cellS rfl
      have y1:w3.cell? ⟨tbk,1,none⟩=some (.slice kA (H.K.length+1) kcap):=HT3.out.cellS rfl
      have t4:w3.cell? ⟨h,4,none⟩=some (.int .i64 H.ser):=HL2.out.blk.cellS rfl
      have t5:w3.cell? ⟨h,5,none⟩=some kv:=HL2.out.blk.cellS rfl
      have f4:=HL2.out.blk.frozen 4
      have f5:=HL2.out.blk.frozen 5
      clear hsl3 hfr3 hke htx hkl
      have zb:=hn3
      have z0:((w3.setCell ⟨h,4,none⟩ (.int .i64 ((H.ser:Int)+1))).setCell ⟨h,5,none⟩ (.slice kA (H.K.length+1) kcap)).cell? ⟨w.heap.size+1,0,none⟩=some (.int .i64 0):=zb.cellS rfl
      have z1:((w3.setCell ⟨h,4,none⟩ (.int .i64 ((H.ser:Int)+1))).setCell ⟨h,5,none⟩ (.slice kA (H.K.length+1) kcap)).cell? ⟨w.heap.size+1,1,none⟩=some (.int .i64 0):=zb.cellS rfl
      have z2:((w3.setCell ⟨h,4,none⟩ (.int .i64 ((H.ser:Int)+1))).setCell ⟨h,5,none⟩ (.slice kA (H.K.length+1) kcap)).cell? ⟨w.heap.size+1,2,none⟩=some (.int .i64 0):=zb.cellS rfl
      have z3:((w3.setCell ⟨h,4,none⟩ (.int .i64 ((H.ser:Int)+1))).setCell ⟨h,5,none⟩ (.slice kA (H.K.length+1) kcap)).cell? ⟨w.heap.size+1,3,none⟩=some (.int .i64 0):=zb.cellS rfl
      have z4:((w3.setCell ⟨h,4,none⟩ (.int .i64 ((H.ser:Int)+1))).setCell ⟨h,5,none⟩ (.slice kA (H.K.length+1) kcap)).cell? ⟨w.heap.size+1,4,none⟩=some (.int .i64 0):=zb.cellS rfl
      have z5:((w3.setCell ⟨h,4,none⟩ (.int .i64 ((H.ser:Int)+1))).setCell ⟨h,5,none⟩ (.slice kA (H.K.length+1) kcap)).cell? ⟨w.heap.size+1,5,none⟩=some (.int .i64 0):=zb.cellS rfl
      have z6:((w3.setCell ⟨h,4,none⟩ (.int .i64 ((H.ser:Int)+1))).setCell ⟨h,5,none⟩ (.slice kA (H.K.length+1) kcap)).cell? ⟨w.heap.size+1,6,none⟩=some (.int .i64 0):=zb.cellS rfl
      have z7:((w3.setCell ⟨h,4,none⟩ (.int .i64 ((H.ser:Int)+1))).setCell ⟨h,5,none⟩ (.slice kA (H.K.length+1) kcap)).cell? ⟨w.heap.size+1,7,none⟩=some (.int .i64 0):=zb.cellS rfl
      have z8:((w3.setCell ⟨h,4,none⟩ (.int .i64 ((H.ser:Int)+1))).setCell ⟨h,5,none⟩ (.slice kA (H.K.length+1) kcap)).cell? ⟨w.heap.size+1,8,none⟩=some (.string ⟨#[]⟩):=zb.cellS rfl
      have z9:((w3.setCell ⟨h,4,none⟩ (.int .i64 ((H.ser:Int)+1))).setCell ⟨h,5,none⟩ (.slice kA (H.K.length+1) kcap)).cell? ⟨w.heap.size+1,9,none⟩=some (.slice none 0 0):=zb.cellS rfl
      have zf0:=zb.frozen 0
      have zf1:=zb.frozen 1
      have zf2:=zb.frozen 2
      have zf3:=zb.frozen 3
      have zf4:=zb.frozen 4
      have zf5:=zb.frozen 5
      have zf6:=zb.frozen 6
      have zf7:=zb.frozen 7
      have zf8:=zb.frozen 8
      have zf9:=zb.frozen 9
      go_wp2_with fail
      have hbm:Blk ((((((((((((w3.setCell ⟨h,4,none⟩ (.int .i64 ((H.ser:Int)+1))).setCell ⟨h,5,none⟩ (.slice kA (H.K.length+1) kcap)).setCell ⟨w.heap.size+1,0,none⟩ (.int .i64 0)).setCell ⟨w.heap.size+1,1,none⟩ (.int .i64 0)).setCell ⟨w.heap.size+1,2,none⟩ (.int .i64 0)).setCell ⟨w.heap.size+1,3,none⟩ (.int .i64 0)).setCell ⟨w.heap.size+1,4,none⟩ (.int .i64 0)).setCell ⟨w.heap.size+1,5,none⟩ (.int .i64 0)).setCell ⟨w.heap.size+1,6,none⟩ (.int .i64 0)).setCell ⟨w.heap.size+1,7,none⟩ (.int .i64 0)).setCell ⟨w.heap.size+1,8,none⟩ (.string (str (mintT H.ser d)))).setCell ⟨w.heap.size+1,9,none⟩ (.slice none 0 0)) (w.heap.size+1) 57 (anC {An.zero 0 with key:=mintT H.ser d} (.slice none 0 0))∧Mod (fun b=>b=w.heap.size+1) ((w3.setCell ⟨h,4,none⟩ (.int .i64 ((H.ser:Int)+1))).setCell ⟨h,5,none⟩ (.slice kA (H.K.length+1) kcap)) ((((((((((((w3.setCell ⟨h,4,none⟩ (.int .i64 ((H.ser:Int)+1))).setCell ⟨h,5,none⟩ (.slice kA (H.K.length+1) kcap)).setCell ⟨w.heap.size+1,0,none⟩ (.int .i64 0)).setCell ⟨w.heap.size+1,1,none⟩ (.int .i64 0)).setCell ⟨w.heap.size+1,2,none⟩ (.int .i64 0)).setCell ⟨w.heap.size+1,3,none⟩ (.int .i64 0)).setCell ⟨w.heap.size+1,4,none⟩ (.int .i64 0)).setCell ⟨w.heap.size+1,5,none⟩ (.int .i64 0)).setCell ⟨w.heap.size+1,6,none⟩ (.int .i64 0)).setCell ⟨w.heap.size+1,7,none⟩ (.int .i64 0)).setCell ⟨w.heap.size+1,8,none⟩ (.string (str (mintT H.ser d)))).setCell ⟨w.heap.size+1,9,none⟩ (.slice none 0 0)):=an_stored HN3.out {An.zero 0 with key:=mintT H.ser d} (.slice none 0 0)
      obtain ⟨hbk,hmd⟩:=hbm
      generalize hWW:World.setCell _ _ _=WW at hbk hmd ⊢
      have k0:WW.cell? ⟨w.heap.size+1,0,none⟩=some (.int .i64 0):=hbk.cellS rfl
      have k1:WW.cell? ⟨w.heap.size+1,1,none⟩=some (.int .i64 0):=hbk.cellS rfl
      have k2:WW.cell? ⟨w.heap.size+1,2,none⟩=some (.int .i64 0):=hbk.cellS rfl
      have k3:WW.cell? ⟨w.heap.size+1,3,none⟩=some (.int .i64 0):=hbk.cellS rfl
      have k4:WW.cell? ⟨w.heap.size+1,4,none⟩=some (.int .i64 0):=hbk.cellS rfl
      have k5:WW.cell? ⟨w.heap.size+1,5,none⟩=some (.int .i64 0):=hbk.cellS rfl
      have k6:WW.cell? ⟨w.heap.size+1,6,none⟩=some (.int .i64 0):=hbk.cellS rfl
      have k7:WW.cell? ⟨w.heap.size+1,7,none⟩=some (.int .i64 0):=hbk.cellS rfl
      have k8:WW.cell? ⟨w.heap.size+1,8,none⟩=some (.string (str (mintT H.ser d))):=hbk.cellS rfl
      have k9:WW.cell? ⟨w.heap.size+1,9,none⟩=some (.slice none 0 0):=hbk.cellS rfl
      clear hWW hbk
      refine bodyPost_ret (v:= .tuple #[ansV {An.zero 0 with key:=mintT H.ser d} (.slice none 0 0),.int .i64 0]) (by simp [results,Tryz.results78,go_sem,ansV,An.zero,k0,k1,k2,k3,k4,k5,k6,k7,k8,k9,str]) rfl ?_
      exact try_ok (H':={H with ser:=H.ser+1,K:=H.K++ [leaseK H q d]}) HSL.out HL.out HS3.out HKY2.out.1 (Oth.refl _ _ _) rfl ⟨HR0.out,rfl,rfl⟩ (rd_none _) new_none hmd
      skip)
   ·skip
    have HMT:Hid (∀wx:World,Rd wx wx.heap.size 3 kv H.K.length (keysV H.K)→Calls Tryz.prog 117 #[.agg #[.int .i64 H.ser,kv],.string (str q.name),.int .i64 q.n,.int .i64 d] wx fun e w'=>e= .returned (.tuple #[.agg #[.int .i64 0,.slice none 0 0],.string ⟨#[]⟩,.int .i64 3])∧Below wx.heap.size wx w'):=fun wx hx=>by
     have hq:=mint_no wx H.ser H.K H.K.length HL1.out.klen kv hx (str q.name) q.n d (.inl hr) (by omega)
     rw [if_neg hr] at hq
     exact hq
    have HF:Hid (LeaseF H q 3 H):=⟨by unfold leaseX;rw [if_neg (by rw [HK.out];decide),if_neg (by rw [←HX.out];decide),if_neg hr],rfl⟩
    clear hr
    have HGX:=Lib.hid HG1.out
    go_wp2_with fail
    have hbt:Below w1.heap.size w1 (w1.alloc (.cells #[.int .i64 0,.slice none 0 0] 102)):=(Below.refl _ _).alloc (Nat.le_refl _) _
    have HTB:Hid (Blk (w1.alloc (.cells #[.int .i64 0,.slice none 0 0] 102)) w1.heap.size 102 #[.int .i64 0,.slice none 0 0]):=Blk.new _ _ _
    have HLT:=Lib.hid (HL1.out.below hbt)
    have HST:=Lib.hid (HS1.out.below hbt)
    have HQT:=Lib.hid (HSQ.out.keep HL.out HST.out HQ0.out)
    have HGT:Hid ((w1.alloc (.cells #[.int .i64 0,.slice none 0 0] 102)).cell? ⟨4,15,none⟩=some (.int .u8 4)):=(hbt.cell (p:=⟨4,15,none⟩) (World.block_lt_of_cell? w1 _ HGX.out)).trans HGX.out
    have HTL:=Lib.hid HTB.out.lt
    have HBT:=Lib.hid hbt
    clear hbt
    have q1:w1.cell? ⟨w.heap.size,1,none⟩=some (.string (str q.name)):=HQ1.out.cellS rfl
    have q5:w1.cell? ⟨w.heap.size,5,none⟩=some (.int .i64 q.n):=HQ1.out.cellS rfl
    have t2:w1.cell? ⟨h,2,none⟩=some (.int .i64 d):=HL1.out.blk.cellS rfl
    have t4:w1.cell? ⟨h,4,none⟩=some (.int .i64 H.ser):=HL1.out.blk.cellS rfl
    have t5:w1.cell? ⟨h,5,none⟩=some kv:=HL1.out.blk.cellS rfl
    have u2:(w1.alloc (.cells #[.int .i64 0,.slice none 0 0] 102)).cell? ⟨h,2,none⟩=some (.int .i64 d):=HLT.out.blk.cellS rfl
    have u4:(w1.alloc (.cells #[.int .i64 0,.slice none 0 0] 102)).cell? ⟨h,4,none⟩=some (.int .i64 H.ser):=HLT.out.blk.cellS rfl
    have u5:(w1.alloc (.cells #[.int .i64 0,.slice none 0 0] 102)).cell? ⟨h,5,none⟩=some kv:=HLT.out.blk.cellS rfl
    have p1:(w1.alloc (.cells #[.int .i64 0,.slice none 0 0] 102)).cell? ⟨w.heap.size,1,none⟩=some (.string (str q.name)):=HQT.out.cellS rfl
    have p5:(w1.alloc (.cells #[.int .i64 0,.slice none 0 0] 102)).cell? ⟨w.heap.size,5,none⟩=some (.int .i64 q.n):=HQT.out.cellS rfl
    have HLB:=Lib.hid HL1.out.blk.lt
    have NEH:Hid (h≠w1.heap.size):=fun e=>by have:=HLB.out;omega
    have HLBT:=Lib.hid HLT.out.blk.lt
    have HQB:=Lib.hid HQ1.out.lt
    have NEQ:Hid (w.heap.size≠w1.heap.size):=fun e=>by have:=HQB.out;omega
    have HQBT:=Lib.hid HQT.out.lt
    go_region_held3 (fun w'=>w'.cell? ⟨h,2,none⟩=some (.int .i64 d)∧w'.cell? ⟨h,4,none⟩=some (.int .i64 H.ser)∧w'.cell? ⟨h,5,none⟩=some kv∧w'.cell? ⟨w.heap.size,1,none⟩=some (.string (str q.name))∧w'.cell? ⟨w.heap.size,5,none⟩=some (.int .i64 q.n))
     (first | (with_reducible exact ⟨t2,t4,t5,q1,q5⟩) | (with_reducible exact ⟨u2,u4,u5,p1,p5⟩) | (with_reducible exact ⟨v2,v4,v5,y1,y5⟩) | (with_reducible exact ⟨cell_far NEH.out (cell_far NEH.out v2),cell_far NEH.out (cell_far NEH.out v4),cell_far NEH.out (cell_far NEH.out v5),cell_far NEQ.out (cell_far NEQ.out y1),cell_far NEQ.out (cell_far NEQ.out y5)⟩) | go_keep)
     (first | (go_at_call 117;refine (HMT.out _ (by exact HL1.out.ks)).mono ?_;rintro e w2 ⟨rfl,hb2'⟩;have v2:w2.cell? ⟨h,2,none⟩=some (.int .i64 d):=(hb2'.cell (p:=⟨h,2,none⟩) HLB.out).trans t2;have v4:w2.cell? ⟨h,4,none⟩=some (.int .i64 H.ser):=(hb2'.cell (p:=⟨h,4,none⟩) HLB.out).trans t4;have v5:w2.cell? ⟨h,5,none⟩=some kv:=(hb2'.cell (p:=⟨h,5,none⟩) HLB.out).trans t5;have y1:w2.cell? ⟨w.heap.size,1,none⟩=some (.string (str q.name)):=(hb2'.cell (p:=⟨w.heap.size,1,none⟩) HQB.out).trans q1;have y5:w2.cell? ⟨w.heap.size,5,none⟩=some (.int .i64 q.n):=(hb2'.cell (p:=⟨w.heap.size,5,none⟩) HQB.out).trans q5) | (go_at_call 117;refine (HMT.out _ (by exact HLT.out.ks)).mono ?_;rintro e w2 ⟨rfl,hb2'⟩;have v2:w2.cell? ⟨h,2,none⟩=some (.int .i64 d):=(hb2'.cell (p:=⟨h,2,none⟩) HLBT.out).trans u2;have v4:w2.cell? ⟨h,4,none⟩=some (.int .i64 H.ser):=(hb2'.cell (p:=⟨h,4,none⟩) HLBT.out).trans u4;have v5:w2.cell? ⟨h,5,none⟩=some kv:=(hb2'.cell (p:=⟨h,5,none⟩) HLBT.out).trans u5;have y1:w2.cell? ⟨w.heap.size,1,none⟩=some (.string (str q.name)):=(hb2'.cell (p:=⟨w.heap.size,1,none⟩) HQBT.out).trans p1;have y5:w2.cell? ⟨w.heap.size,5,none⟩=some (.int .i64 q.n):=(hb2'.cell (p:=⟨w.heap.size,5,none⟩) HQBT.out).trans p5;have tb2:Blk w2 w1.heap.size 102 #[.int .i64 0,.slice none 0 0]:=(hb2'.block _ HTL.out).trans HTB.out;have e0:w2.cell? ⟨w1.heap.size,0,none⟩=some (.int .i64 0):=tb2.cellS rfl;have e1:w2.cell? ⟨w1.heap.size,1,none⟩=some (.slice none 0 0):=tb2.cellS rfl;have g0:=tb2.frozen 0;have g1:=tb2.frozen 1))
    all_goals first
     | (generalize hw3:World.setCell (World.setCell w2 _ _) _ _=w3
        have hb2:Below (w1.alloc (.cells #[.int .i64 0,.slice none 0 0] 102)).heap.size (w1.alloc (.cells #[.int .i64 0,.slice none 0 0] 102)) w2:=⟨hb2'.os,hb2'.tape,hb2'.output,hb2'.size,hb2'.block⟩
        have hb3:Below w1.heap.size w1 w3:=by subst hw3;exact ((HBT.out.trans (hb2.mono HBT.out.size)).setCell (Nat.le_refl _) _).setCell (Nat.le_refl _) _
        clear hw3 hb2 tb2 e0 e1 g0 g1)
     | (generalize hw3:World.alloc w2 _=w3
        have hb2:Below w1.heap.size w1 w2:=⟨hb2'.os,hb2'.tape,hb2'.output,hb2'.size,hb2'.block⟩
        have hb3:Below w1.heap.size w1 w3:=by subst hw3;exact hb2.alloc hb2.size _
        clear hw3 hb2)
    all_goals (
     have HS2:=Lib.hid (HS1.out.below hb3)
     have HL2:=Lib.hid (HL1.out.below hb3)
     have HN2:=Lib.hid (HSL.out.keep HL.out HS2.out HN0.out)
     clear hb2' hb3 t2 t4 t5 q1 q5 u2 u4 u5 p1 p5 v2 v4 v5 y1 y5 HLB HLBT HQB HQBT NEH NEQ HLT HST HQT HGT HGX HTB HTL HBT HMT
     have zb:=HN2.out
     have z0:w3.cell? ⟨w.heap.size+1,0,none⟩=some (.int .i64 0):=zb.cellS rfl
     have z1:w3.cell? ⟨w.heap.size+1,1,none⟩=some (.int .i64 0):=zb.cellS rfl
     have z2:w3.cell? ⟨w.heap.size+1,2,none⟩=some (.int .i64 0):=zb.cellS rfl
     have z3:w3.cell? ⟨w.heap.size+1,3,none⟩=some (.int .i64 0):=zb.cellS rfl
     have z4:w3.cell? ⟨w.heap.size+1,4,none⟩=some (.int .i64 0):=zb.cellS rfl
     have z5:w3.cell? ⟨w.heap.size+1,5,none⟩=some (.int .i64 0):=zb.cellS rfl
     have z6:w3.cell? ⟨w.heap.size+1,6,none⟩=some (.int .i64 0):=zb.cellS rfl
     have z7:w3.cell? ⟨w.heap.size+1,7,none⟩=some (.int .i64 0):=zb.cellS rfl
     have z8:w3.cell? ⟨w.heap.size+1,8,none⟩=some (.string ⟨#[]⟩):=zb.cellS rfl
     have z9:w3.cell? ⟨w.heap.size+1,9,none⟩=some (.slice none 0 0):=zb.cellS rfl
     have zf0:=zb.frozen 0
     have zf1:=zb.frozen 1
     have zf2:=zb.frozen 2
     have zf3:=zb.frozen 3
     have zf4:=zb.frozen 4
     have zf5:=zb.frozen 5
     have zf6:=zb.frozen 6
     have zf7:=zb.frozen 7
     have zf8:=zb.frozen 8
     have zf9:=zb.frozen 9
     go_wp2_with fail
     obtain ⟨hbk,hmd⟩:=an_refused HN2.out 0
     generalize hWW:World.setCell _ _ _=WW at hbk hmd ⊢
     have k0:WW.cell? ⟨w.heap.size+1,0,none⟩=some (.int .i64 0):=hbk.cellS rfl
     have k1:WW.cell? ⟨w.heap.size+1,1,none⟩=some (.int .i64 0):=hbk.cellS rfl
     have k2:WW.cell? ⟨w.heap.size+1,2,none⟩=some (.int .i64 0):=hbk.cellS rfl
     have k3:WW.cell? ⟨w.heap.size+1,3,none⟩=some (.int .i64 0):=hbk.cellS rfl
     have k4:WW.cell? ⟨w.heap.size+1,4,none⟩=some (.int .i64 0):=hbk.cellS rfl
     have k5:WW.cell? ⟨w.heap.size+1,5,none⟩=some (.int .i64 0):=hbk.cellS rfl
     have k6:WW.cell? ⟨w.heap.size+1,6,none⟩=some (.int .i64 0):=hbk.cellS rfl
     have k7:WW.cell? ⟨w.heap.size+1,7,none⟩=some (.int .i64 0):=hbk.cellS rfl
     have k8:WW.cell? ⟨w.heap.size+1,8,none⟩=some (.string ⟨#[]⟩):=hbk.cellS rfl
     have k9:WW.cell? ⟨w.heap.size+1,9,none⟩=some (.slice none 0 0):=hbk.cellS rfl
     clear hWW hbk
     refine bodyPost_ret (v:= .tuple #[ansV (An.zero 0) (.slice none 0 0),.int .i64 3]) (by simp [results,Tryz.results78,go_sem,ansV,An.zero,k0,k1,k2,k3,k4,k5,k6,k7,k8,k9,str]) rfl ?_
     exact try_no HSL.out HL.out HS2.out HL2.out (St.refl HL.out.ar.rel t) ⟨rfl,rfl,rfl⟩ (by decide) HF.out hmd
     skip)
  ·have HF:Hid (LeaseF H q x H):=⟨by unfold leaseX;rw [if_neg (by rw [HK.out];decide),if_pos (by rw [←HX.out];exact hx0)];exact HX.out,rfl⟩
   have HX0:=Lib.hid hx0
   have hxb:(x==0)=false:=beq_eq_false_iff_ne.2 hx0
   have hxn:(x !=0)=true:=by simp [hx0]
   clear hx0
   have zb:=HN1.out
   have z0:w1.cell? ⟨w.heap.size+1,0,none⟩=some (.int .i64 0):=zb.cellS rfl
   have z1:w1.cell? ⟨w.heap.size+1,1,none⟩=some (.int .i64 0):=zb.cellS rfl
   have z2:w1.cell? ⟨w.heap.size+1,2,none⟩=some (.int .i64 0):=zb.cellS rfl
   have z3:w1.cell? ⟨w.heap.size+1,3,none⟩=some (.int .i64 0):=zb.cellS rfl
   have z4:w1.cell? ⟨w.heap.size+1,4,none⟩=some (.int .i64 0):=zb.cellS rfl
   have z5:w1.cell? ⟨w.heap.size+1,5,none⟩=some (.int .i64 0):=zb.cellS rfl
   have z6:w1.cell? ⟨w.heap.size+1,6,none⟩=some (.int .i64 0):=zb.cellS rfl
   have z7:w1.cell? ⟨w.heap.size+1,7,none⟩=some (.int .i64 0):=zb.cellS rfl
   have z8:w1.cell? ⟨w.heap.size+1,8,none⟩=some (.string ⟨#[]⟩):=zb.cellS rfl
   have z9:w1.cell? ⟨w.heap.size+1,9,none⟩=some (.slice none 0 0):=zb.cellS rfl
   have zf0:=zb.frozen 0
   have zf1:=zb.frozen 1
   have zf2:=zb.frozen 2
   have zf3:=zb.frozen 3
   have zf4:=zb.frozen 4
   have zf5:=zb.frozen 5
   have zf6:=zb.frozen 6
   have zf7:=zb.frozen 7
   have zf8:=zb.frozen 8
   have zf9:=zb.frozen 9
   go_wp2_with fail
   obtain ⟨hbk,hmd⟩:=an_refused HN1.out 0
   generalize hWW:World.setCell _ _ _=WW at hbk hmd ⊢
   have k0:WW.cell? ⟨w.heap.size+1,0,none⟩=some (.int .i64 0):=hbk.cellS rfl
   have k1:WW.cell? ⟨w.heap.size+1,1,none⟩=some (.int .i64 0):=hbk.cellS rfl
   have k2:WW.cell? ⟨w.heap.size+1,2,none⟩=some (.int .i64 0):=hbk.cellS rfl
   have k3:WW.cell? ⟨w.heap.size+1,3,none⟩=some (.int .i64 0):=hbk.cellS rfl
   have k4:WW.cell? ⟨w.heap.size+1,4,none⟩=some (.int .i64 0):=hbk.cellS rfl
   have k5:WW.cell? ⟨w.heap.size+1,5,none⟩=some (.int .i64 0):=hbk.cellS rfl
   have k6:WW.cell? ⟨w.heap.size+1,6,none⟩=some (.int .i64 0):=hbk.cellS rfl
   have k7:WW.cell? ⟨w.heap.size+1,7,none⟩=some (.int .i64 0):=hbk.cellS rfl
   have k8:WW.cell? ⟨w.heap.size+1,8,none⟩=some (.string ⟨#[]⟩):=hbk.cellS rfl
   have k9:WW.cell? ⟨w.heap.size+1,9,none⟩=some (.slice none 0 0):=hbk.cellS rfl
   clear hWW hbk
   refine bodyPost_ret (v:= .tuple #[ansV (An.zero 0) (.slice none 0 0),.int .i64 x]) (by simp [results,Tryz.results78,go_sem,ansV,An.zero,k0,k1,k2,k3,k4,k5,k6,k7,k8,k9,str]) rfl ?_
   exact try_no HSL.out HL.out HS1.out HL1.out (St.refl HL.out.ar.rel t) ⟨rfl,rfl,rfl⟩ HX0.out HF.out hmd
 ·have HF:Hid (LeaseF H q 10 H):=⟨by unfold leaseX;rw [if_pos hk],rfl⟩
  clear hk HKY HFN
  have zb:=HN0.out
  have z0:w0.cell? ⟨w.heap.size+1,0,none⟩=some (.int .i64 0):=zb.cellS rfl
  have z1:w0.cell? ⟨w.heap.size+1,1,none⟩=some (.int .i64 0):=zb.cellS rfl
  have z2:w0.cell? ⟨w.heap.size+1,2,none⟩=some (.int .i64 0):=zb.cellS rfl
  have z3:w0.cell? ⟨w.heap.size+1,3,none⟩=some (.int .i64 0):=zb.cellS rfl
  have z4:w0.cell? ⟨w.heap.size+1,4,none⟩=some (.int .i64 0):=zb.cellS rfl
  have z5:w0.cell? ⟨w.heap.size+1,5,none⟩=some (.int .i64 0):=zb.cellS rfl
  have z6:w0.cell? ⟨w.heap.size+1,6,none⟩=some (.int .i64 0):=zb.cellS rfl
  have z7:w0.cell? ⟨w.heap.size+1,7,none⟩=some (.int .i64 0):=zb.cellS rfl
  have z8:w0.cell? ⟨w.heap.size+1,8,none⟩=some (.string ⟨#[]⟩):=zb.cellS rfl
  have z9:w0.cell? ⟨w.heap.size+1,9,none⟩=some (.slice none 0 0):=zb.cellS rfl
  have zf0:=zb.frozen 0
  have zf1:=zb.frozen 1
  have zf2:=zb.frozen 2
  have zf3:=zb.frozen 3
  have zf4:=zb.frozen 4
  have zf5:=zb.frozen 5
  have zf6:=zb.frozen 6
  have zf7:=zb.frozen 7
  have zf8:=zb.frozen 8
  have zf9:=zb.frozen 9
  go_wp2_with fail
  have HS0:Hid (HStep h p R wv kv R wv kv w0 w0):=HStep.refl _ _ _ _ _ _
  obtain ⟨hbk,hmd⟩:=an_refused HN0.out 0
  generalize hWW:World.setCell _ _ _=WW at hbk hmd ⊢
  have k0:WW.cell? ⟨w.heap.size+1,0,none⟩=some (.int .i64 0):=hbk.cellS rfl
  have k1:WW.cell? ⟨w.heap.size+1,1,none⟩=some (.int .i64 0):=hbk.cellS rfl
  have k2:WW.cell? ⟨w.heap.size+1,2,none⟩=some (.int .i64 0):=hbk.cellS rfl
  have k3:WW.cell? ⟨w.heap.size+1,3,none⟩=some (.int .i64 0):=hbk.cellS rfl
  have k4:WW.cell? ⟨w.heap.size+1,4,none⟩=some (.int .i64 0):=hbk.cellS rfl
  have k5:WW.cell? ⟨w.heap.size+1,5,none⟩=some (.int .i64 0):=hbk.cellS rfl
  have k6:WW.cell? ⟨w.heap.size+1,6,none⟩=some (.int .i64 0):=hbk.cellS rfl
  have k7:WW.cell? ⟨w.heap.size+1,7,none⟩=some (.int .i64 0):=hbk.cellS rfl
  have k8:WW.cell? ⟨w.heap.size+1,8,none⟩=some (.string ⟨#[]⟩):=hbk.cellS rfl
  have k9:WW.cell? ⟨w.heap.size+1,9,none⟩=some (.slice none 0 0):=hbk.cellS rfl
  clear hWW hbk
  refine bodyPost_ret (v:= .tuple #[ansV (An.zero 0) (.slice none 0 0),.int .i64 10]) (by simp [results,Tryz.results78,go_sem,ansV,An.zero,k0,k1,k2,k3,k4,k5,k6,k7,k8,k9,str]) rfl ?_
  exact try_no HSL.out HL.out HS0.out HL0.out (St.refl HL.out.ar.rel t) ⟨rfl,rfl,rfl⟩ (by decide) HF.out hmd
end Go.Proofs.YthohnjgnpapnoaaGreatDoor
