/- quad: put. · quad: Put. · hall: what set makes: plain words. -/
import Derived.Test.YthohnjgnpapnoaaGreatDoorR17
import Derived.Test.YthohnjgnpapnoaaGreatDoorR21
import Derived.Test.YthohnjgnpapnoaaGreatDoorR19
import Derived.Test.YthohnjgnpapnoaaGreatDoorR10
set_option linter.unusedVariables false
set_option linter.unusedSimpArgs false
namespace Go.Proofs.YthohnjgnpapnoaaGreatDoor
open Go.RowKit
def PutOk (n:Nat):Prop:=∀(w:World) (hb:Nat) (ty:TypeId) (more:List Value) (p:Nat) (R:ArR) (S:ArS) (A:Nat→Abs) (t:Nat) (bad:Int),Hd w hb ty more p R S A t bad→
 ∀(id:Int) (P:Int→Int→Bool) (X Y x y:Int) (al:Bool),0≤x∧x<2^n→0≤y∧y<2^n→(bad=0→Has S A t id (treeOf P n X Y))→
 Calls Tryz.prog 153 #[.pointer (some ⟨hb,0,none⟩),.int .i64 id,.int .i64 x,.int .i64 y,.int .i64 n,.bool al] w (HandPost w hb ty more p R S A t bad (treeOf (setP P (X+x) (Y+y) al) n X Y))
set_option maxRecDepth 100000 in
set_option maxHeartbeats 3200000 in
theorem put_zero:PutOk 0:=by
 intro w hb ty more p R S A t bad h id P X Y x y al hx hy hq
 have h1:x=0:=by simp at hx;omega
 have h2:y=0:=by simp at hy;omega
 subst h1 h2
 have hT:treeOf (setP P (X+0) (Y+0) al) 0 X Y=if al then .alive else .dead:=by
  simp [treeOf,setP]
 rw [hT]
 have H:=Lib.hid h
 clear h hq hT hx hy
 cases al
 ·go_enter Tryz.func153,Tryz.ntmps153
  go_wp2_with fail
  go_returns
  exact ⟨0,S,A,R,bad,rfl,Made.refl H.out.rel t bad,fun _=>Has.dead,H.out,StepH.refl _ p R w⟩
 ·go_enter Tryz.func153,Tryz.ntmps153
  go_wp2_with fail
  go_returns
  exact ⟨1,S,A,R,bad,rfl,Made.refl H.out.rel t bad,fun _=>Has.alive,H.out,StepH.refl _ p R w⟩
set_option maxRecDepth 100000 in
set_option maxHeartbeats 3200000 in
theorem put_more (n:Nat) (hn:n+1≤44) (ih:PutOk n):PutOk (n+1):=by
 intro w hb ty more p R S A t bad h id P X Y x y al hx hy hq
 have hp1:=pow_i64 (n:=n) (by omega)
 have hp2:=pow_pos2 n
 have HQ:Hid (bad=0→Has S A t id (.node (subT P n X Y 0) (subT P n X Y 1) (subT P n X Y 2) (subT P n X Y 3))):=by rw [←subT_all];exact hq
 have HX:=Lib.hid hx
 have HY:=Lib.hid hy
 obtain ⟨hx1,hx2⟩:=hx
 obtain ⟨hy1,hy2⟩:=hy
 rw [Int.pow_succ] at hx2 hy2
 have H:=Lib.hid h
 have HK:=Lib.hid (hkids_any w hb ty more p R S A t bad h id _ _ _ _ HQ.out)
 have HLT:=Lib.hid h.blk.lt
 clear h hq
 have hn0:((n:Int)+1==0)=false:=by simp;omega
 rw [show ((n+1:Nat):Int)=(n:Int)+1 by omega,subT_all]
 have HO:Hid (∀j,j<4→j≠qk n x y→subT (setP P (X+x) (Y+y) al) n X Y j=subT P n X Y j):=fun j hj hne=>subT_other HX.out HY.out hj hne
 have HTL:Hid (∀j,(subT (setP P (X+x) (Y+y) al) n X Y j).lvl=n):=fun j=>subT_lvl _ n X Y j
 have hhe:subT (setP P (X+x) (Y+y) al) n X Y (qk n x y)=treeOf (setP P (gx (2^n) X (qk n x y)+qx n x) (gy (2^n) Y (qk n x y)+qx n y) al) n (gx (2^n) X (qk n x y)) (gy (2^n) Y (qk n x y)):=subT_here
 have HHE:=Lib.hid hhe
 clear hhe
 generalize subT (setP P (X+x) (Y+y) al) n X Y=T at HO HTL HHE ⊢
 go_enter Tryz.func153,Tryz.ntmps153
 go_wp2_with fail
 (with_reducible refine HK.out.mono ?_)
 rintro e w1 ⟨k0,k1,k2,k3,rfl,hkh,_,hd1,hs1⟩
 obtain ⟨Q,q0,q1,q2,q3⟩:∃Q:Nat→Int,Q 0=k0∧Q 1=k1∧Q 2=k2∧Q 3=k3:=⟨fun k=>if k=0 then k0 else if k=1 then k1 else if k=2 then k2 else k3,rfl,rfl,rfl,rfl⟩
 subst q0 q1 q2 q3
 have HB:=Lib.hid (hd1.beside (Q:=Q) hs1)
 have HKH:Hid (bad=0→∀k,k<4→Has S A t (Q k) (subT P n X Y k)):=fun e k hk=>by
  obtain ⟨g0,g1,g2,g3⟩:=hkh e
  rcases (by omega:k=0∨k=1∨k=2∨k=3) with rfl | rfl | rfl | rfl<;>assumption
 clear hkh hd1 hs1 HK
 have hi:=ih _ hb ty more p R S A t bad HB.out.hd (Q (qk n x y)) P (gx (2^n) X (qk n x y)) (gy (2^n) Y (qk n x y)) (qx n x) (qx n y) al (qx_bd HX.out) (qx_bd HY.out) (fun e=>HKH.out e _ (qk_lt n x y))
 rw [←HHE.out] at hi
 have hk4:=qk_lt n x y
 clear HHE
 generalize hkk:qk n x y=k at hi HO hk4
 unfold qk at hkk
 have HK4:=Lib.hid hk4
 clear hk4
 by_cases hx4:2^n≤x<;>by_cases hy4:2^n≤y
 ·have e:k=3:=by rw [←hkk];simp [hx4,hy4]
  subst e
  unfold qx at hi
  (first | rw [if_pos hx4] at hi | rw [if_neg hx4] at hi)
  (first | rw [if_pos hy4] at hi | rw [if_neg hy4] at hi)
  unfold QC at hi
  have HI:=Lib.hid hi
  clear hi hkk
  go_wp2_with fail
  (with_reducible refine HI.out.mono ?_)
  rintro e w3 ⟨r,S2,A2,R2,bad2,rfl,hm,hh,hd,hst⟩
  have HB2:=Lib.hid (HB.out.step HLT.out hd hst)
  have HB3:=Lib.hid (HB2.out.set HLT.out HK4.out r)
  have u0:=HB2.out.q.cellS (QC_get Q HK4.out)
  have f0:=HB2.out.q.frozen 3
  have hall:bad2=0→∀j,j<4→Has S2 A2 t (upd Q 3 r j) (T j):=fun e=>kids_upd (hh e) (fun j hj hne=>by
   rw [HO.out j hj hne];exact (HKH.out ((hm.ok e).1) j hj).st HB2.out.hd.ht hm.st)
  have c0:(w3.setCell ⟨w1.heap.size,3,none⟩ (.int .i64 r)).cell? ⟨w1.heap.size,0,none⟩=some (.int .i64 (Q 0)):=HB3.out.q.cellS (QC_get _ (k:=0) (by decide))
  have c1:(w3.setCell ⟨w1.heap.size,3,none⟩ (.int .i64 r)).cell? ⟨w1.heap.size,1,none⟩=some (.int .i64 (Q 1)):=HB3.out.q.cellS (QC_get _ (k:=1) (by decide))
  have c2:(w3.setCell ⟨w1.heap.size,3,none⟩ (.int .i64 r)).cell? ⟨w1.heap.size,2,none⟩=some (.int .i64 (Q 2)):=HB3.out.q.cellS (QC_get _ (k:=2) (by decide))
  have c3:(w3.setCell ⟨w1.heap.size,3,none⟩ (.int .i64 r)).cell? ⟨w1.heap.size,3,none⟩=some (.int .i64 r):=HB3.out.q.cellS (QC_get _ (k:=3) (by decide))
  have HJ:Hid (Calls Tryz.prog 151 #[.pointer (some ⟨hb,0,none⟩),.agg #[.int .i64 (Q 0),.int .i64 (Q 1),.int .i64 (Q 2),.int .i64 r]] (w3.setCell ⟨w1.heap.size,3,none⟩ (.int .i64 r)) (HandPost (w3.setCell ⟨w1.heap.size,3,none⟩ (.int .i64 r)) hb ty more p R2 S2 A2 t bad2 (.node (T 0) (T 1) (T 2) (T 3)))):=
   hjoin_any _ hb ty more p R2 S2 A2 t bad2 HB3.out.hd _ _ _ _ _ _ _ _ n (fun e=>⟨hall e 0 (by decide),hall e 1 (by decide),hall e 2 (by decide),hall e 3 (by decide)⟩) ⟨HTL.out 0,HTL.out 1,HTL.out 2,HTL.out 3⟩ (by omega)
  have HM:=Lib.hid hm
  clear hm hh hd hst HI hall
  go_wp2_with fail
  (with_reducible refine HJ.out.mono ?_)
  rintro e w4 ⟨r2,S3,A3,R3,bad3,rfl,hm,hh,hd,hst⟩
  have HM2:=Lib.hid (HM.out.next hm fun z hz=>mem_nodes.2 (.inr (.inr (.inr (.inr hz)))))
  have HH:=Lib.hid hh
  have HD:=Lib.hid hd
  have HS2:=Lib.hid (HB3.out.fin hst)
  clear hm hh hd hst c0 c1 c2 c3 u0 f0 HJ
  go_wp2_with fail
  go_returns
  exact ⟨r2,S3,A3,R3,bad3,rfl,HM2.out,HH.out,HD.out,HS2.out⟩
 ·have e:k=1:=by rw [←hkk];simp [hx4,hy4]
  subst e
  unfold qx at hi
  (first | rw [if_pos hx4] at hi | rw [if_neg hx4] at hi)
  (first | rw [if_pos hy4] at hi | rw [if_neg hy4] at hi)
  unfold QC at hi
  have HI:=Lib.hid hi
  clear hi hkk
  go_wp2_with fail
  (with_reducible refine HI.out.mono ?_)
  rintro e w3 ⟨r,S2,A2,R2,bad2,rfl,hm,hh,hd,hst⟩
  have HB2:=Lib.hid (HB.out.step HLT.out hd hst)
  have HB3:=Lib.hid (HB2.out.set HLT.out HK4.out r)
  have u0:=HB2.out.q.cellS (QC_get Q HK4.out)
  have f0:=HB2.out.q.frozen 1
  have hall:bad2=0→∀j,j<4→Has S2 A2 t (upd Q 1 r j) (T j):=fun e=>kids_upd (hh e) (fun j hj hne=>by
   rw [HO.out j hj hne];exact (HKH.out ((hm.ok e).1) j hj).st HB2.out.hd.ht hm.st)
  have c0:(w3.setCell ⟨w1.heap.size,1,none⟩ (.int .i64 r)).cell? ⟨w1.heap.size,0,none⟩=some (.int .i64 (Q 0)):=HB3.out.q.cellS (QC_get _ (k:=0) (by decide))
  have c1:(w3.setCell ⟨w1.heap.size,1,none⟩ (.int .i64 r)).cell? ⟨w1.heap.size,1,none⟩=some (.int .i64 r):=HB3.out.q.cellS (QC_get _ (k:=1) (by decide))
  have c2:(w3.setCell ⟨w1.heap.size,1,none⟩ (.int .i64 r)).cell? ⟨w1.heap.size,2,none⟩=some (.int .i64 (Q 2)):=HB3.out.q.cellS (QC_get _ (k:=2) (by decide))
  have c3:(w3.setCell ⟨w1.heap.size,1,none⟩ (.int .i64 r)).cell? ⟨w1.heap.size,3,none⟩=some (.int .i64 (Q 3)):=HB3.out.q.cellS (QC_get _ (k:=3) (by decide))
  have HJ:Hid (Calls Tryz.prog 151 #[.pointer (some ⟨hb,0,none⟩),.agg #[.int .i64 (Q 0),.int .i64 r,.int .i64 (Q 2),.int .i64 (Q 3)]] (w3.setCell ⟨w1.heap.size,1,none⟩ (.int .i64 r)) (HandPost (w3.setCell ⟨w1.heap.size,1,none⟩ (.int .i64 r)) hb ty more p R2 S2 A2 t bad2 (.node (T 0) (T 1) (T 2) (T 3)))):=
   hjoin_any _ hb ty more p R2 S2 A2 t bad2 HB3.out.hd _ _ _ _ _ _ _ _ n (fun e=>⟨hall e 0 (by decide),hall e 1 (by decide),hall e 2 (by decide),hall e 3 (by decide)⟩) ⟨HTL.out 0,HTL.out 1,HTL.out 2,HTL.out 3⟩ (by omega)
  have HM:=Lib.hid hm
  clear hm hh hd hst HI hall
  go_wp2_with fail
  (with_reducible refine HJ.out.mono ?_)
  rintro e w4 ⟨r2,S3,A3,R3,bad3,rfl,hm,hh,hd,hst⟩
  have HM2:=Lib.hid (HM.out.next hm fun z hz=>mem_nodes.2 (.inr (.inr (.inl hz))))
  have HH:=Lib.hid hh
  have HD:=Lib.hid hd
  have HS2:=Lib.hid (HB3.out.fin hst)
  clear hm hh hd hst c0 c1 c2 c3 u0 f0 HJ
  go_wp2_with fail
  go_returns
  exact ⟨r2,S3,A3,R3,bad3,rfl,HM2.out,HH.out,HD.out,HS2.out⟩
 ·have e:k=2:=by rw [←hkk];simp [hx4,hy4]
  subst e
  unfold qx at hi
  (first | rw [if_pos hx4] at hi | rw [if_neg hx4] at hi)
  (first | rw [if_pos hy4] at hi | rw [if_neg hy4] at hi)
  unfold QC at hi
  have HI:=Lib.hid hi
  clear hi hkk
  go_wp2_with fail
  (with_reducible refine HI.out.mono ?_)
  rintro e w3 ⟨r,S2,A2,R2,bad2,rfl,hm,hh,hd,hst⟩
  have HB2:=Lib.hid (HB.out.step HLT.out hd hst)
  have HB3:=Lib.hid (HB2.out.set HLT.out HK4.out r)
  have u0:=HB2.out.q.cellS (QC_get Q HK4.out)
  have f0:=HB2.out.q.frozen 2
  have hall:bad2=0→∀j,j<4→Has S2 A2 t (upd Q 2 r j) (T j):=fun e=>kids_upd (hh e) (fun j hj hne=>by
   rw [HO.out j hj hne];exact (HKH.out ((hm.ok e).1) j hj).st HB2.out.hd.ht hm.st)
  have c0:(w3.setCell ⟨w1.heap.size,2,none⟩ (.int .i64 r)).cell? ⟨w1.heap.size,0,none⟩=some (.int .i64 (Q 0)):=HB3.out.q.cellS (QC_get _ (k:=0) (by decide))
  have c1:(w3.setCell ⟨w1.heap.size,2,none⟩ (.int .i64 r)).cell? ⟨w1.heap.size,1,none⟩=some (.int .i64 (Q 1)):=HB3.out.q.cellS (QC_get _ (k:=1) (by decide))
  have c2:(w3.setCell ⟨w1.heap.size,2,none⟩ (.int .i64 r)).cell? ⟨w1.heap.size,2,none⟩=some (.int .i64 r):=HB3.out.q.cellS (QC_get _ (k:=2) (by decide))
  have c3:(w3.setCell ⟨w1.heap.size,2,none⟩ (.int .i64 r)).cell? ⟨w1.heap.size,3,none⟩=some (.int .i64 (Q 3)):=HB3.out.q.cellS (QC_get _ (k:=3) (by decide))
  have HJ:Hid (Calls Tryz.prog 151 #[.pointer (some ⟨hb,0,none⟩),.agg #[.int .i64 (Q 0),.int .i64 (Q 1),.int .i64 r,.int .i64 (Q 3)]] (w3.setCell ⟨w1.heap.size,2,none⟩ (.int .i64 r)) (HandPost (w3.setCell ⟨w1.heap.size,2,none⟩ (.int .i64 r)) hb ty more p R2 S2 A2 t bad2 (.node (T 0) (T 1) (T 2) (T 3)))):=
   hjoin_any _ hb ty more p R2 S2 A2 t bad2 HB3.out.hd _ _ _ _ _ _ _ _ n (fun e=>⟨hall e 0 (by decide),hall e 1 (by decide),hall e 2 (by decide),hall e 3 (by decide)⟩) ⟨HTL.out 0,HTL.out 1,HTL.out 2,HTL.out 3⟩ (by omega)
  have HM:=Lib.hid hm
  clear hm hh hd hst HI hall
  go_wp2_with fail
  (with_reducible refine HJ.out.mono ?_)
  rintro e w4 ⟨r2,S3,A3,R3,bad3,rfl,hm,hh,hd,hst⟩
  have HM2:=Lib.hid (HM.out.next hm fun z hz=>mem_nodes.2 (.inr (.inr (.inr (.inl hz)))))
  have HH:=Lib.hid hh
  have HD:=Lib.hid hd
  have HS2:=Lib.hid (HB3.out.fin hst)
  clear hm hh hd hst c0 c1 c2 c3 u0 f0 HJ
  go_wp2_with fail
  go_returns
  exact ⟨r2,S3,A3,R3,bad3,rfl,HM2.out,HH.out,HD.out,HS2.out⟩
 ·have e:k=0:=by rw [←hkk];simp [hx4,hy4]
  subst e
  unfold qx at hi
  (first | rw [if_pos hx4] at hi | rw [if_neg hx4] at hi)
  (first | rw [if_pos hy4] at hi | rw [if_neg hy4] at hi)
  unfold QC at hi
  have HI:=Lib.hid hi
  clear hi hkk
  go_wp2_with fail
  (with_reducible refine HI.out.mono ?_)
  rintro e w3 ⟨r,S2,A2,R2,bad2,rfl,hm,hh,hd,hst⟩
  have HB2:=Lib.hid (HB.out.step HLT.out hd hst)
  have HB3:=Lib.hid (HB2.out.set HLT.out HK4.out r)
  have u0:=HB2.out.q.cellS (QC_get Q HK4.out)
  have f0:=HB2.out.q.frozen 0
  have hall:bad2=0→∀j,j<4→Has S2 A2 t (upd Q 0 r j) (T j):=fun e=>kids_upd (hh e) (fun j hj hne=>by
   rw [HO.out j hj hne];exact (HKH.out ((hm.ok e).1) j hj).st HB2.out.hd.ht hm.st)
  have c0:(w3.setCell ⟨w1.heap.size,0,none⟩ (.int .i64 r)).cell? ⟨w1.heap.size,0,none⟩=some (.int .i64 r):=HB3.out.q.cellS (QC_get _ (k:=0) (by decide))
  have c1:(w3.setCell ⟨w1.heap.size,0,none⟩ (.int .i64 r)).cell? ⟨w1.heap.size,1,none⟩=some (.int .i64 (Q 1)):=HB3.out.q.cellS (QC_get _ (k:=1) (by decide))
  have c2:(w3.setCell ⟨w1.heap.size,0,none⟩ (.int .i64 r)).cell? ⟨w1.heap.size,2,none⟩=some (.int .i64 (Q 2)):=HB3.out.q.cellS (QC_get _ (k:=2) (by decide))
  have c3:(w3.setCell ⟨w1.heap.size,0,none⟩ (.int .i64 r)).cell? ⟨w1.heap.size,3,none⟩=some (.int .i64 (Q 3)):=HB3.out.q.cellS (QC_get _ (k:=3) (by decide))
  have HJ:Hid (Calls Tryz.prog 151 #[.pointer (some ⟨hb,0,none⟩),.agg #[.int .i64 r,.int .i64 (Q 1),.int .i64 (Q 2),.int .i64 (Q 3)]] (w3.setCell ⟨w1.heap.size,0,none⟩ (.int .i64 r)) (HandPost (w3.setCell ⟨w1.heap.size,0,none⟩ (.int .i64 r)) hb ty more p R2 S2 A2 t bad2 (.node (T 0) (T 1) (T 2) (T 3)))):=
   hjoin_any _ hb ty more p R2 S2 A2 t bad2 HB3.out.hd _ _ _ _ _ _ _ _ n (fun e=>⟨hall e 0 (by decide),hall e 1 (by decide),hall e 2 (by decide),hall e 3 (by decide)⟩) ⟨HTL.out 0,HTL.out 1,HTL.out 2,HTL.out 3⟩ (by omega)
  have HM:=Lib.hid hm
  clear hm hh hd hst HI hall
  go_wp2_with fail
  (with_reducible refine HJ.out.mono ?_)
  rintro e w4 ⟨r2,S3,A3,R3,bad3,rfl,hm,hh,hd,hst⟩
  have HM2:=Lib.hid (HM.out.next hm fun z hz=>mem_nodes.2 (.inr (.inl hz)))
  have HH:=Lib.hid hh
  have HD:=Lib.hid hd
  have HS2:=Lib.hid (HB3.out.fin hst)
  clear hm hh hd hst c0 c1 c2 c3 u0 f0 HJ
  go_wp2_with fail
  go_returns
  exact ⟨r2,S3,A3,R3,bad3,rfl,HM2.out,HH.out,HD.out,HS2.out⟩
theorem put_any (n:Nat) (hn:n≤44):PutOk n:=by
 induction n with
 | zero=>exact put_zero
 | succ n ih=>exact put_more n hn (ih (by omega))
end Go.Proofs.YthohnjgnpapnoaaGreatDoor
namespace Go.Proofs.YthohnjgnpapnoaaGreatDoor
open Go.RowKit
theorem rootT_set (P:Int→Int→Bool) (k:Nat) (cx cy:Int) (al:Bool):treeOf (setP P (-2^k+(cx+2^k)) (-2^k+(cy+2^k)) al) (k+1) (-2^k) (-2^k)=rootT (setP P cx cy al) k:=by
 rw [show-2^k+(cx+2^k)=cx by omega,show-2^k+(cy+2^k)=cy by omega];rfl
def PutOut (w:World) (p:Nat) (R:ArR) (S:ArS) (A:Nat→Abs) (e:Ending) (w':World):Prop:=e= .returned (.tuple #[.int .i64 0,.int .i64 3])∧Ar w' p R S A∧StepH NoX p R R w w'
set_option maxRecDepth 100000 in
set_option maxHeartbeats 3200000 in
theorem putR_in (w:World) (p:Nat) (R:ArR) (S:ArS) (A:Nat→Abs) (h:Ar w p R S A) (t:Nat) (ht:t<64) (P:Int→Int→Bool) (k:Nat) (hk:k≤43) (root:Int) (hr:Has S A t root (rootT P k)) (cx cy:Int) (hx: -2^k≤cx∧cx<2^k) (hy: -2^k≤cy∧cy<2^k) (al:Bool):
 Calls Tryz.prog 108 #[.pointer (some ⟨p,0,none⟩),.int .i64 t,.int .i64 root,.agg #[.int .i64 cx,.int .i64 cy],.bool al] w (RootPost w p R S A t (rootT (setP P cx cy al) k)):=by
 have hp1:=pow_i64 (n:=k) (by omega)
 have hp2:=pow_pos2 k
 have hp43:(2:Int)^k≤8796093022208:=by
  have h1:=Nat.pow_le_pow_right (n:=2) (by decide) hk
  have h2:((2^k:Nat):Int)≤((2^43:Nat):Int):=Int.ofNat_le.2 h1
  rw [show (2:Nat)^43=8796093022208 by decide] at h2
  simpa using h2
 have HB1:=Lib.hid ((Below.refl w.heap.size w).alloc (Nat.le_refl _) (.cells #[.int .i64 cx,.int .i64 cy] 109))
 have hd:=(h.below HB1.out).hd ht 182 []
 rw [World.size_alloc] at hd
 have HD:=Lib.hid hd
 have HB2:=Lib.hid (HB1.out.alloc HB1.out.size (.cells (handC p t 0 []) 182))
 have HC:=Lib.hid ((Blk.new w 109 #[.int .i64 cx,.int .i64 cy]).alloc (.cells (handC p t 0 []) 182))
 have hlv:=hlevel_any _ (w.heap.size+1) 182 [] p R S A t 0 hd root (rootT P k) (fun _=>hr)
 unfold handC at hlv HD HB2 HC
 have HV:=Lib.hid hlv
 have HR:=Lib.hid hr
 have HNO:Hid (¬Own p R w.heap.size):=fun ho=>Nat.lt_irrefl _ (h.arm.own_lt ho)
 have HKK:=Lib.hid hk
 clear h hd hlv hr hk HB1
 go_enter Tryz.func108,Tryz.ntmps108
 go_wp2_with fail
 (with_reducible refine HV.out.mono ?_)
 rintro e w3 ⟨lv,rfl,hlv,hd3,hs3⟩
 have hlv2:=hlv rfl
 rw [rootT_lvl] at hlv2
 subst hlv2
 have HD3:=Lib.hid hd3
 have HB3:Hid (Blk w3 w.heap.size 109 #[.int .i64 cx,.int .i64 cy]):=HC.out.mod hs3.mod (fun ho=>by
  rcases ho with ho | ho
  ·exact HNO.out ho
  ·omega)
 have HS3:=Lib.hid hs3
 have c2:=HD3.out.c2
 have c0:=HB3.out.cellS (i:=0) rfl
 have c1:=HB3.out.cellS (i:=1) rfl
 have hk0:((k:Int)+1==0)=false:=by rw [beq_eq_false_iff_ne];omega
 clear hlv hd3 hs3 HV HC HD
 go_wp2_with fail
 (with_reducible refine (half_any w3 k (by have:=HKK.out;omega)).mono ?_)
 rintro e wq ⟨rfl,rfl⟩
 obtain ⟨hx1,hx2⟩:=hx
 obtain ⟨hy1,hy2⟩:=hy
 have e1:decide (cx< -2^k)=false:=decide_eq_false (by omega)
 have e2:decide (2^k≤cx)=false:=decide_eq_false (by omega)
 have e3:decide (cy< -2^k)=false:=decide_eq_false (by omega)
 have e4:decide (2^k≤cy)=false:=decide_eq_false (by omega)
 go_wp2_with fail
 have hpw:(2:Int)^(k+1)=2^k*2:=Int.pow_succ 2 k
 have hpt:=put_any (k+1) (by have:=HKK.out;omega) w3 (w.heap.size+1) 182 [] p R S A t 0 HD3.out root P (-2^k) (-2^k) (cx+2^k) (cy+2^k) al ⟨by omega,by omega⟩ ⟨by omega,by omega⟩ (fun _=>HR.out)
 rw [rootT_set,show ((k+1:Nat):Int)=(k:Int)+1 by omega] at hpt
 have HP:=Lib.hid hpt
 clear hpt hpw
 (with_reducible refine HP.out.mono ?_)
 rintro e w6 ⟨r,S2,A2,R2,bad2,rfl,hm,hh,hd,hst⟩
 have c2':=hd.c2
 have HF:=Lib.hid (fun w7 (hb7:Below w6.heap.size w6 w7)=>root_post (t:=t) HB2.out (Nat.le_succ _) hm hh hd (HS3.out.trans hst) hb7)
 clear hm hh hd hst HP c2 c0 c1
 go_wp2_with fail
 (with_reducible refine (done_any w6 _ bad2 c2' r).mono ?_)
 rintro e w7 ⟨rfl,hb7⟩
 have HF2:=Lib.hid (HF.out w7 hb7)
 clear hb7 HF c2'
 generalize (if bad2=0 then r else 0)=rr at HF2 ⊢
 go_wp2_with fail
 go_returns
 exact HF2.out
set_option maxRecDepth 100000 in
set_option maxHeartbeats 3200000 in
theorem putR_out (w:World) (p:Nat) (R:ArR) (S:ArS) (A:Nat→Abs) (h:Ar w p R S A) (t:Nat) (ht:t<64) (P:Int→Int→Bool) (k:Nat) (hk:k≤43) (root:Int) (hr:Has S A t root (rootT P k)) (cx cy:Int) (hxy:¬((-2^k≤cx∧cx<2^k)∧-2^k≤cy∧cy<2^k)) (al:Bool):
 Calls Tryz.prog 108 #[.pointer (some ⟨p,0,none⟩),.int .i64 t,.int .i64 root,.agg #[.int .i64 cx,.int .i64 cy],.bool al] w (PutOut w p R S A):=by
 have hp1:=pow_i64 (n:=k) (by omega)
 have hp2:=pow_pos2 k
 have hp43:(2:Int)^k≤8796093022208:=by
  have h1:=Nat.pow_le_pow_right (n:=2) (by decide) hk
  have h2:((2^k:Nat):Int)≤((2^43:Nat):Int):=Int.ofNat_le.2 h1
  rw [show (2:Nat)^43=8796093022208 by decide] at h2
  simpa using h2
 have HB1:=Lib.hid ((Below.refl w.heap.size w).alloc (Nat.le_refl _) (.cells #[.int .i64 cx,.int .i64 cy] 109))
 have hd:=(h.below HB1.out).hd ht 182 []
 rw [World.size_alloc] at hd
 have HD:=Lib.hid hd
 have HB2:=Lib.hid (HB1.out.alloc HB1.out.size (.cells (handC p t 0 []) 182))
 have HC:=Lib.hid ((Blk.new w 109 #[.int .i64 cx,.int .i64 cy]).alloc (.cells (handC p t 0 []) 182))
 have hlv:=hlevel_any _ (w.heap.size+1) 182 [] p R S A t 0 hd root (rootT P k) (fun _=>hr)
 unfold handC at hlv HD HB2 HC
 have HV:=Lib.hid hlv
 have HR:=Lib.hid hr
 have HNO:Hid (¬Own p R w.heap.size):=fun ho=>Nat.lt_irrefl _ (h.arm.own_lt ho)
 have HKK:=Lib.hid hk
 clear h hd hlv hr hk HB1
 go_enter Tryz.func108,Tryz.ntmps108
 go_wp2_with fail
 (with_reducible refine HV.out.mono ?_)
 rintro e w3 ⟨lv,rfl,hlv,hd3,hs3⟩
 have hlv2:=hlv rfl
 rw [rootT_lvl] at hlv2
 subst hlv2
 have HD3:=Lib.hid hd3
 have HB3:Hid (Blk w3 w.heap.size 109 #[.int .i64 cx,.int .i64 cy]):=HC.out.mod hs3.mod (fun ho=>by
  rcases ho with ho | ho
  ·exact HNO.out ho
  ·omega)
 have HS3:=Lib.hid hs3
 have c2:=HD3.out.c2
 have c0:=HB3.out.cellS (i:=0) rfl
 have c1:=HB3.out.cellS (i:=1) rfl
 have hk0:((k:Int)+1==0)=false:=by rw [beq_eq_false_iff_ne];omega
 clear hlv hd3 hs3 HV HC HD
 go_wp2_with fail
 (with_reducible refine (half_any w3 k (by have:=HKK.out;omega)).mono ?_)
 rintro e wq ⟨rfl,rfl⟩
 have HF:Hid (PutOut w p R S A (.returned (.tuple #[.int .i64 0,.int .i64 3])) w3):=⟨rfl,HD3.out.ar,((StepH.of_below HB2.out).trans HS3.out).wide fun b hb e=>by omega⟩
 by_cases a1:cx< -2^k
 ·have e1:decide (cx< -2^k)=true:=decide_eq_true a1
  go_wp2_with fail
  go_returns
  exact HF.out
 ·have e1:decide (cx< -2^k)=false:=decide_eq_false a1
  by_cases a2:2^k≤cx
  ·have e2:decide (2^k≤cx)=true:=decide_eq_true a2
   go_wp2_with fail
   go_returns
   exact HF.out
  ·have e2:decide (2^k≤cx)=false:=decide_eq_false a2
   by_cases a3:cy< -2^k
   ·have e3:decide (cy< -2^k)=true:=decide_eq_true a3
    go_wp2_with fail
    go_returns
    exact HF.out
   ·have e3:decide (cy< -2^k)=false:=decide_eq_false a3
    have e4:decide (2^k≤cy)=true:=decide_eq_true (by omega)
    go_wp2_with fail
    go_returns
    exact HF.out
end Go.Proofs.YthohnjgnpapnoaaGreatDoor
namespace Go.Proofs.YthohnjgnpapnoaaGreatDoor
open Go.RowKit
def inK (k:Nat) (c:Int×Int):Prop:=(-2^k≤c.1∧c.1<2^k)∧-2^k≤c.2∧c.2<2^k
instance decInK (k:Nat) (c:Int×Int):Decidable (inK k c):=by unfold inK;infer_instance
theorem clip_supp {P:Int→Int→Bool} {k:Nat} (h:Supp P k):clipP P k=P:=by
 funext a b
 unfold clipP
 cases hp:P a b with
 | false=>simp
 | true=>
   obtain ⟨h1,h2,h3,h4⟩:=h a b hp
   simp
   omega
theorem supp_set {P:Int→Int→Bool} {k:Nat} (h:Supp P k) {c:Int×Int} (hc:inK k c):Supp (setP P c.1 c.2 true) k:=fun a b hp=>by
 unfold setP at hp
 unfold inK at hc
 by_cases e:a=c.1∧b=c.2
 ·obtain ⟨rfl,rfl⟩:=e;exact ⟨hc.1.1,hc.1.2,hc.2.1,hc.2.2⟩
 ·rw [if_neg (by simpa using e)] at hp
  exact h a b hp
def upK:Nat→Nat→Int×Int→Nat
 | 0,k,_=>k
 | f+1,k,c=>if inK k c then k else upK f (k+1) c
def UpC (P:Int→Int→Bool) (k:Nat) (c:Int×Int) (V:List Thing):Prop:=∀j,k≤j→¬inK j c→∀x∈wrapL P j,x∈V
def setW:(Int→Int→Bool)→Nat→List (Int×Int)→(Int→Int→Bool)×Nat
 | P,k,[]=>(P,k)
 | P,k,c::l=>setW (setP P c.1 c.2 true) (upK 41 k c) l
def SetC:(Int→Int→Bool)→Nat→List (Int×Int)→List Thing→Prop
 | _,_,[],_=>True
 | P,k,c::l,V=>UpC P k c V∧(∀x∈nodes (rootT (setP P c.1 c.2 true) (upK 41 k c)),x∈V)∧SetC (setP P c.1 c.2 true) (upK 41 k c) l V
theorem inK_up {k m:Nat} {c:Int×Int} (h:inK k c) (hm:k≤m):inK m c:=by
 have h2:(2:Int)^k≤2^m:=by
  have:=Nat.pow_le_pow_right (n:=2) (by decide) hm
  have e:∀n:Nat,((2^n:Nat):Int)=(2:Int)^n:=fun n=>by simp
  rw [←e,←e];omega
 unfold inK at*
 omega
theorem upK_le:∀(f k:Nat) (c:Int×Int),k≤upK f k c
 | 0,_,_=>Nat.le_refl _
 | f+1,k,c=>by
   unfold upK
   by_cases h:inK k c
   ·rw [if_pos h];exact Nat.le_refl _
   ·rw [if_neg h];exact Nat.le_trans (Nat.le_succ k) (upK_le f (k+1) c)
theorem upK_in:∀(f k:Nat) (c:Int×Int),inK (k+f) c→inK (upK f k c) c
 | 0,_,_,h=>h
 | f+1,k,c,h=>by
   unfold upK
   by_cases hk:inK k c
   ·rw [if_pos hk];exact hk
   ·rw [if_neg hk];exact upK_in f (k+1) c (by rw [show k+1+f=k+(f+1) by omega];exact h)
theorem upK_max:∀(f k m:Nat) (c:Int×Int),inK m c→k≤m→upK f k c≤m
 | 0,_,_,_,_,h=>h
 | f+1,k,m,c,hc,h=>by
   unfold upK
   by_cases hk:inK k c
   ·rw [if_pos hk];exact h
   ·rw [if_neg hk]
    refine upK_max f (k+1) m c hc ?_
    rcases Nat.lt_or_ge k m with q | q
    ·exact q
    ·have:k=m:=by omega
     subst this;exact absurd hc hk
theorem upK_first:∀(f k m:Nat) (c:Int×Int),inK m c→k≤m→m≤k+f→(∀j,k≤j→j<m→¬inK j c)→upK f k c=m
 | 0,k,m,c,_,h1,h2,_=>by unfold upK;omega
 | f+1,k,m,c,hm,h1,h2,hn=>by
   unfold upK
   by_cases hk:inK k c
   ·rw [if_pos hk]
    refine Nat.le_antisymm h1 (Nat.le_of_not_lt fun q=>hn k (Nat.le_refl _) q hk)
   ·rw [if_neg hk]
    have:k≠m:=fun e=>hk (e▸hm)
    exact upK_first f (k+1) m c hm (by omega) (by omega) fun j h3 h4=>hn j (by omega) h4
theorem upK_not:∀(f k j:Nat) (c:Int×Int),k≤j→j<upK f k c→¬inK j c
 | 0,k,j,c,h1,h2=>by unfold upK at h2;omega
 | f+1,k,j,c,h1,h2=>by
   unfold upK at h2
   by_cases hk:inK k c
   ·rw [if_pos hk] at h2;omega
   ·rw [if_neg hk] at h2
    by_cases e:j=k
    ·subst e;exact hk
    ·exact upK_not f (k+1) j c (by omega) h2
theorem setW_append:∀(P:Int→Int→Bool) (k:Nat) (l m:List (Int×Int)),setW P k (l++m)=setW (setW P k l).1 (setW P k l).2 m
 | _,_,[],_=>rfl
 | P,k,c::l,m=>setW_append (setP P c.1 c.2 true) (upK 41 k c) l m
theorem SetC_append:∀(P:Int→Int→Bool) (k:Nat) (l m:List (Int×Int)) (V:List Thing),SetC P k (l++m) V↔SetC P k l V∧SetC (setW P k l).1 (setW P k l).2 m V
 | _,_,[],_,_=>⟨fun h=>⟨trivial,h⟩,fun h=>h.2⟩
 | P,k,c::l,m,V=>by
   have ih:=SetC_append (setP P c.1 c.2 true) (upK 41 k c) l m V
   show UpC P k c V∧_∧SetC _ _ (l++m) V↔(UpC P k c V∧_∧SetC _ _ l V)∧_
   rw [ih]
   show _↔_∧SetC (setW (setP P c.1 c.2 true) (upK 41 k c) l).1 (setW (setP P c.1 c.2 true) (upK 41 k c) l).2 m V
   exact ⟨fun ⟨a,b,c,d⟩=>⟨⟨a,b,c⟩,d⟩,fun ⟨⟨a,b,c⟩,d⟩=>⟨a,b,c,d⟩⟩
theorem SetC.mono:∀{P:Int→Int→Bool} {k:Nat} {l:List (Int×Int)} {V V':List Thing},SetC P k l V→(∀x∈V,x∈V')→SetC P k l V'
 | _,_,[],_,_,_,_=>trivial
 | _,_,_::_,_,_,h,hv=>⟨fun j h1 h2 x hx=>hv x (h.1 j h1 h2 x hx),fun x hx=>hv x (h.2.1 x hx),h.2.2.mono hv⟩
theorem okP.set {P:Int→Int→Bool} (h:okP P) {c:Int×Int} (hc:okC c):okP (setP P c.1 c.2 true):=fun a b hp=>by
 unfold setP at hp
 by_cases e:a=c.1∧b=c.2
 ·obtain ⟨rfl,rfl⟩:=e;exact hc
 ·rw [if_neg e] at hp;exact h a b hp
theorem ok_in40 {c:Int×Int} (h:okC c):inK 40 c:=by
 unfold okC okZ at h
 unfold inK
 rw [show (2:Int)^40=1099511627776 from by decide]
 omega
theorem setW_ok:∀{P:Int→Int→Bool} {k:Nat} (l:List (Int×Int)),Supp P k→okP P→k≤40→(∀c∈l,okC c)→Supp (setW P k l).1 (setW P k l).2∧okP (setW P k l).1∧(setW P k l).2≤40∧k≤(setW P k l).2
 | _,_,[],h1,h2,h3,_=>⟨h1,h2,h3,Nat.le_refl _⟩
 | P,k,c::l,h1,h2,h3,h4=>by
   have hc:=h4 c (List.mem_cons_self ..)
   have hu:=upK_max 41 k 40 c (ok_in40 hc) h3
   have hl:=upK_le 41 k c
   have hin:=upK_in 41 k c (inK_up (ok_in40 hc) (by omega))
   obtain ⟨g1,g2,g3,g4⟩:=setW_ok l (supp_set (h1.up hl) hin) (h2.set hc) hu fun d hd=>h4 d (List.mem_cons_of_mem _ hd)
   exact ⟨g1,g2,g3,Nat.le_trans hl g4⟩
structure SetI (w0:World) (h p:Nat) (R:ArR) (H:HS) (t:Nat) (d:Int) (wv kv:Value) (y:WD) (s l1:List (Int×Int)) (P:Int→Int→Bool) (k:Nat) (r:Int) (S':ArS) (A':Nat→Abs) (R':ArR) (bad:Int) (wx:World):Prop where
 hl:Hl wx h p R' S' A' t d H.Ws wv H.ser H.K kv
 st:HStep h p R wv kv R' wv kv w0 wx
 gr:Grew t (SetC y.P y.k s) H.S H.A 0 S' A' bad
 has:bad=0→Has S' A' t r (rootT P k)
 told:bad=0→SetC y.P y.k l1 (A' t).have_
structure SetJ (w0:World) (h p:Nat) (R:ArR) (H:HS) (t:Nat) (d:Int) (wv kv:Value) (y:WD) (s l1:List (Int×Int)) (P:Int→Int→Bool) (k κ:Nat) (c:Int×Int) (cb:Nat) (r:Int) (S':ArS) (A':Nat→Abs) (R':ArR) (bad:Int) (wx:World):Prop where
 i:SetI w0 h p R H t d wv kv y s l1 P κ r S' A' R' bad wx
 lo:k≤κ
 hi:κ≤40
 out:∀j,k≤j→j<κ→¬inK j c
 up:bad=0→∀j,k≤j→j<κ→∀x∈wrapL P j,x∈(A' t).have_
 cbl:Blk wx cb 109 #[.int .i64 c.1,.int .i64 c.2]
 no:¬Own p R' cb
section
variable {w0 wx w1 : World} {h p t : Nat} {R R' R2 : ArR} {H : HS} {d : Int} {wv kv : Value} {y : WD} {s l1 : List (Int × Int)} {P : Int → Int → Bool} {k κ cb : Nat} {c : Int × Int} {r r2 bad bad2 : Int} {S' S2 : ArS} {A' A2 : Nat → Abs}
theorem SetI.alloc (hI:SetI w0 h p R H t d wv kv y s l1 P k r S' A' R' bad wx) (hb:Below wx.heap.size wx w1):SetI w0 h p R H t d wv kv y s l1 P k r S' A' R' bad w1:=
 ⟨hI.hl.below hb,hI.st.below hb,hI.gr,hI.has,hI.told⟩
theorem SetI.start (hI:SetI w0 h p R H t d wv kv y s l1 P k r S' A' R' bad wx) (hk:k≤40) (c:Int×Int):SetJ w0 h p R H t d wv kv y s l1 P k k c wx.heap.size r S' A' R' bad (wx.alloc (.cells #[.int .i64 c.1,.int .i64 c.2] 109)):=
 ⟨hI.alloc ((Below.refl _ _).alloc (Nat.le_refl _) _),Nat.le_refl _,hk,fun j h1 h2=>by omega,fun _ j h1 h2=>by omega,Blk.new _ _ _,(hI.hl.new (Nat.le_refl _)).1⟩
theorem SetJ.arena (hJ:SetJ w0 h p R H t d wv kv y s l1 P k κ c cb r S' A' R' bad wx) (ha:Ar w1 p R2 S' A') (hst:StepH NoX p R' R2 wx w1):SetJ w0 h p R H t d wv kv y s l1 P k κ c cb r S' A' R2 bad w1:=
 ⟨⟨hJ.i.hl.arena ha hst hJ.i.hl.good,hJ.i.st.trans (HStep.arena hst),hJ.i.gr,hJ.i.has,hJ.i.told⟩,hJ.lo,hJ.hi,hJ.out,hJ.up,hst.keepX hJ.cbl hJ.no (fun h=>h),hst.not hJ.cbl.lt hJ.no⟩
theorem SetJ.wrap (hJ:SetJ w0 h p R H t d wv kv y s l1 P k κ c cb r S' A' R' 0 wx) (hs:Supp P k) (hC:∀V,SetC y.P y.k s V→UpC P k c V) (ho:okC c) (hn:¬inK κ c) (hm:Made t (wrapL P κ) S' A' 0 S2 A2 bad2) (hh:bad2=0→Has S2 A2 t r2 (rootT (clipP P κ) (κ+1))) (ha:Ar w1 p R2 S2 A2) (hst:StepH NoX p R' R2 wx w1):
 SetJ w0 h p R H t d wv kv y s l1 P k (κ+1) c cb (if bad2=0 then r2 else 0) S2 A2 R2 bad2 w1:=by
 have hlt:κ<40:=by
  refine Nat.lt_of_le_of_ne hJ.hi fun e=>hn ?_
  rw [e];exact ok_in40 ho
 have hlo:=hJ.lo
 refine ⟨⟨hJ.i.hl.grow ha hst hm.st,hJ.i.st.trans (HStep.arena hst),hJ.i.gr.trans (hm.grew.mono fun V hV x hx=>hC V hV κ hlo hn x hx),fun e=>?_,fun e=>(hJ.i.told rfl).mono hm.st.mono⟩,by omega,by omega,fun j h1 h2=>?_,fun e j h1 h2 x hx=>?_,hst.keepX hJ.cbl hJ.no (fun h=>h),hst.not hJ.cbl.lt hJ.no⟩
 ·rw [if_pos e]
  have:=hh e
  rw [clip_supp (hs.up hlo)] at this
  exact this
 ·by_cases q:j=κ
  ·subst q;exact hn
  ·exact hJ.out j h1 (by omega)
 ·by_cases q:j=κ
  ·subst q;exact ((hm.ok e).2.1 x).2 (.inr hx)
  ·exact hm.st.mono x (hJ.up rfl j h1 (by omega) x hx)
theorem SetJ.put (hJ:SetJ w0 h p R H t d wv kv y s l1 P k κ c cb r S' A' R' 0 wx) (hC:∀V,SetC y.P y.k s V→∀x∈nodes (rootT (setP P c.1 c.2 true) (upK 41 k c)),x∈V) (hP:setW y.P y.k l1=(P,k)) (hin:inK κ c) (hm:Made t (nodes (rootT (setP P c.1 c.2 true) κ)) S' A' 0 S2 A2 bad2) (hh:bad2=0→Has S2 A2 t r2 (rootT (setP P c.1 c.2 true) κ)) (ha:Ar w1 p R2 S2 A2) (hst:StepH NoX p R' R2 wx w1):
 SetI w0 h p R H t d wv kv y s (l1++ [c]) (setW y.P y.k (l1++ [c])).1 (setW y.P y.k (l1++ [c])).2 (if bad2=0 then r2 else 0) S2 A2 R2 bad2 w1:=by
 have hlo:=hJ.lo
 have hhi:=hJ.hi
 have hu:upK 41 k c=κ:=upK_first 41 k κ c hin hlo (by omega) hJ.out
 rw [setW_append,hP]
 simp only [setW]
 rw [hu] at hC ⊢
 refine ⟨hJ.i.hl.grow ha hst hm.st,hJ.i.st.trans (HStep.arena hst),hJ.i.gr.trans (hm.grew.mono hC),fun e=>?_,fun e=>?_⟩
 ·rw [if_pos e];exact hh e
 ·rw [SetC_append,hP]
  refine ⟨(hJ.i.told rfl).mono hm.st.mono,fun j h1 h2 x hx=>?_,fun x hx=>?_,trivial⟩
  ·refine hm.st.mono x (hJ.up rfl j h1 (Nat.lt_of_not_le fun q=>h2 (inK_up hin q)) x hx)
  ·rw [hu] at hx
   exact ((hm.ok e).2.1 x).2 (.inr hx)
theorem SetI.fail (hI:SetI w0 h p R H t d wv kv y s l1 P k r S' A' R' bad wx) (hb:bad≠0) (l2:List (Int×Int)) (P2:Int→Int→Bool) (k2:Nat) (r2:Int):SetI w0 h p R H t d wv kv y s l2 P2 k2 r2 S' A' R' bad wx:=
 ⟨hI.hl,hI.st,hI.gr,fun e=>absurd e hb,fun e=>absurd e hb⟩
end
end Go.Proofs.YthohnjgnpapnoaaGreatDoor
