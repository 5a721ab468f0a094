/- quad: Wrap. · leap: Leap. · leap: how far cells come; canonical roots. · hall: a tenant's hall in memory. -/
import Derived.Test.YthohnjgnpapnoaaGreatDoorR17
import Derived.Test.YthohnjgnpapnoaaGreatDoorR14
import Derived.Test.YthohnjgnpapnoaaGreatDoorR18
import Derived.Test.YthohnjgnpapnoaaGreatDoorR2
import Derived.Test.YthohnjgnpapnoaaGreatDoorR1
import Derived.Test.YthohnjgnpapnoaaGreatDoorR3
import Derived.Test.YthohnjgnpapnoaaGreatDoorR10
set_option linter.unusedVariables false
set_option linter.unusedSimpArgs false
namespace Go.Proofs.YthohnjgnpapnoaaGreatDoor
open Go.RowKit
def clipP (P:Int→Int→Bool) (k:Nat):Int→Int→Bool:=fun a b=>P a b&&decide (-2^k≤a∧a<2^k∧-2^k≤b∧b<2^k)
theorem inB_root {k:Nat} {a b:Int}:inB (k+1) (-2^k) (-2^k) a b↔-2^k≤a∧a<2^k∧-2^k≤b∧b<2^k:=by
 unfold inB;rw [Int.pow_succ];omega
theorem T2_clip (P:Int→Int→Bool) {k j i:Nat} (hj:j<4) (hi:i<4):T2 (clipP P k) k j i=if i=3-j then T2 P k j i else emptyT k:=by
 by_cases e:i=3-j
 ·rw [if_pos e]
  refine treeOf_congr fun a b hb=>?_
  have:=inB_root.1 ((T2_in hj hi hb).2 e)
  unfold clipP;rw [decide_eq_true this,Bool.and_true]
 ·rw [if_neg e]
  refine treeOf_none fun a b hb=>?_
  have:¬(-2^k≤a∧a<2^k∧-2^k≤b∧b<2^k):=fun q=>e ((T2_in hj hi hb).1 (inB_root.2 q))
  unfold clipP;rw [decide_eq_false this,Bool.and_false]
def wrapT (P:Int→Int→Bool) (k j:Nat):Tree:= .node (T2 (clipP P k) k j 0) (T2 (clipP P k) k j 1) (T2 (clipP P k) k j 2) (T2 (clipP P k) k j 3)
theorem wrapT_all (P:Int→Int→Bool) (k:Nat):rootT (clipP P k) (k+1)= .node (wrapT P k 0) (wrapT P k 1) (wrapT P k 2) (wrapT P k 3):=by
 unfold rootT wrapT
 rw [subT_all,←T2_kid,←T2_kid,←T2_kid,←T2_kid]
theorem wrapT_lvl (P:Int→Int→Bool) (k j:Nat):(wrapT P k j).lvl=((k+1:Nat):Int):=by
 unfold wrapT;rw [←T2_kid];exact subT_lvl _ _ _ _ _
def wrapL (P:Int→Int→Bool) (k:Nat):List Thing:=
 blanks k++ [.sq (wrapT P k 0) (wrapT P k 1) (wrapT P k 2) (wrapT P k 3),.sq (T2 (clipP P k) k 0 0) (T2 (clipP P k) k 0 1) (T2 (clipP P k) k 0 2) (T2 (clipP P k) k 0 3),.sq (T2 (clipP P k) k 1 0) (T2 (clipP P k) k 1 1) (T2 (clipP P k) k 1 2) (T2 (clipP P k) k 1 3),.sq (T2 (clipP P k) k 2 0) (T2 (clipP P k) k 2 1) (T2 (clipP P k) k 2 2) (T2 (clipP P k) k 2 3),.sq (T2 (clipP P k) k 3 0) (T2 (clipP P k) k 3 1) (T2 (clipP P k) k 3 2) (T2 (clipP P k) k 3 3)]
theorem wrapL_len (P:Int→Int→Bool) (k:Nat):(wrapL P k).length=k+5:=by unfold wrapL;rw [List.length_append,blanks_length];rfl
theorem wrap_nodes {P:Int→Int→Bool} {k j:Nat} (hj:j<4) {x:Thing} (h:x∈nodes (wrapT P k j)):x∈wrapL P k∨x∈nodes (rootT P k):=by
 have key:∀i,i<4→x∈nodes (T2 (clipP P k) k j i)→x∈wrapL P k∨x∈nodes (rootT P k):=fun i hi hx=>by
  rw [T2_clip P hj hi] at hx
  split at hx
  ·rename_i e
   refine .inr ?_
   rw [T2_inner,mem_nodes]
   subst e
   rcases four_cases hj with rfl | rfl | rfl | rfl
   ·exact .inr (.inl hx)
   ·exact .inr (.inr (.inl hx))
   ·exact .inr (.inr (.inr (.inl hx)))
   ·exact .inr (.inr (.inr (.inr hx)))
  ·rw [nodes_emptyT] at hx
   exact .inl (List.mem_append_left _ hx)
 unfold wrapT at h
 rcases mem_nodes.1 h with q | q | q | q | q
 ·refine .inl (List.mem_append_right _ ?_)
  rcases four_cases hj with rfl | rfl | rfl | rfl<;>simp [q]
 ·exact key 0 (by decide) q
 ·exact key 1 (by decide) q
 ·exact key 2 (by decide) q
 ·exact key 3 (by decide) q
theorem wrap_new {P:Int→Int→Bool} {k:Nat}:∀x∈wrapL P k,x∈nodes (rootT (clipP P k) (k+1))∨x∈nodes (emptyT k):=fun x hx=>by
 rcases List.mem_append.1 hx with q | q
 ·exact .inr ((nodes_emptyT k x).2 q)
 ·refine .inl ?_
  rw [wrapT_all,mem_nodes]
  have hj:∀j,x= .sq (T2 (clipP P k) k j 0) (T2 (clipP P k) k j 1) (T2 (clipP P k) k j 2) (T2 (clipP P k) k j 3)→x∈nodes (wrapT P k j):=fun j e=>by rw [e];exact mem_nodes.2 (.inl rfl)
  simp only [List.mem_cons,List.not_mem_nil,or_false] at q
  rcases q with q | q | q | q | q
  ·exact .inl q
  ·exact .inr (.inl (hj 0 q))
  ·exact .inr (.inr (.inl (hj 1 q)))
  ·exact .inr (.inr (.inr (.inl (hj 2 q))))
  ·exact .inr (.inr (.inr (.inr (hj 3 q))))
theorem wrap_made {S S1 S2 S3:ArS} {A A1 A2 A3:Nat→Abs} {t:Nat} {P:Int→Int→Bool} {k:Nat} {b1 b2 b3:Int} (hr:Rel S A) (ht:t<64) (hh:hasT (A t).have_ (rootT P k)=true) (h1:Made t (nodes (emptyT k)) S A 0 S1 A1 b1) (h2:Made t (upto (wrapT P k) 4) S1 A1 b1 S2 A2 b2) (h3:Made t (nodes (.node (wrapT P k 0) (wrapT P k 1) (wrapT P k 2) (wrapT P k 3))) S2 A2 b2 S3 A3 b3):Made t (wrapL P k) S A 0 S3 A3 b3:=by
 refine ((h1.trans h2).trans h3).shrink hr ht (fun x hx=>?_) fun x hx=>?_
 ·rcases wrap_new x hx with q | q
  ·rw [wrapT_all] at q;exact List.mem_append_right _ q
  ·exact List.mem_append_left _ (List.mem_append_left _ q)
 ·have had:x∈nodes (rootT P k)→x∈(A t).have_:=hr.nodes_has ht hh x
  have hw:∀j,j<4→x∈nodes (wrapT P k j)→x∈wrapL P k∨x∈(A t).have_:=fun j hj hx=>(wrap_nodes hj hx).imp_right had
  rcases List.mem_append.1 hx with q | q
  ·rcases List.mem_append.1 q with q | q
   ·exact .inl (List.mem_append_left _ ((nodes_emptyT k x).1 q))
   ·simp only [upto,List.nil_append,List.mem_append] at q
    rcases q with ((q | q) | q) | q
    ·exact hw 0 (by decide) q
    ·exact hw 1 (by decide) q
    ·exact hw 2 (by decide) q
    ·exact hw 3 (by decide) q
  ·rcases mem_nodes.1 q with q | q | q | q | q
   ·exact .inl (List.mem_append_right _ (by rw [q];exact List.mem_cons_self ..))
   ·exact hw 0 (by decide) q
   ·exact hw 1 (by decide) q
   ·exact hw 2 (by decide) q
   ·exact hw 3 (by decide) q
def WrapPost (w:World) (p:Nat) (R:ArR) (S:ArS) (A:Nat→Abs) (t:Nat) (P:Int→Int→Bool) (k:Nat) (e:Ending) (w':World):Prop:=
 ∃(r:Int) (S':ArS) (A':Nat→Abs) (R':ArR) (bad':Int),e= .returned (.tuple #[.int .i64 (if bad'=0 then r else 0),.int .i64 bad'])∧Made t (wrapL P k) S A 0 S' A' bad'∧(bad'=0→Has S' A' t r (rootT (clipP P k) (k+1)))∧Ar w' p R' S' A'∧StepH NoX p R R' w w'
set_option maxRecDepth 100000 in
set_option maxHeartbeats 3200000 in
theorem wrap_any (w:World) (p:Nat) (R:ArR) (S:ArS) (A:Nat→Abs) (h:Ar w p R S A) (t:Nat) (ht:t<64) (P:Int→Int→Bool) (k:Nat) (hk:k≤42) (root:Int) (hr:Has S A t root (rootT P k)):
 Calls Tryz.prog 109 #[.pointer (some ⟨p,0,none⟩),.int .i64 t,.int .i64 root] w (WrapPost w p R S A t P k):=by
 have hd:=h.hd ht 182 []
 have HB2:=Lib.hid ((Below.refl w.heap.size w).alloc (Nat.le_refl _) (.cells (handC p t 0 []) 182))
 have hlv:=hlevel_any _ w.heap.size 182 [] p R S A t 0 hd root (rootT P k) (fun _=>hr)
 unfold handC at hlv HB2
 have HV:=Lib.hid hlv
 have HR:=Lib.hid hr
 have HKK:=Lib.hid hk
 have HREL:=Lib.hid h.rel
 clear h hd hlv hr hk
 go_enter Tryz.func109,Tryz.ntmps109
 go_wp2_with fail
 (with_reducible refine HV.out.mono ?_)
 rintro e w3 ⟨lv,rfl,hlv,hd3,hs3⟩
 have hlv2:=hlv rfl
 rw [rootT_lvl] at hlv2
 subst hlv2
 have HD3:=Lib.hid hd3
 have HS3:=Lib.hid hs3
 have c2:=HD3.out.c2
 have hk0:((k:Int)+1==0)=false:=by rw [beq_eq_false_iff_ne];omega
 have HKD:=Lib.hid (hkids_any w3 w.heap.size 182 [] p R S A t 0 hd3 root _ _ _ _ (fun _=>by rw [←T2_inner];exact HR.out))
 clear hlv hd3 hs3 HV
 go_wp2_with fail
 (with_reducible refine HKD.out.mono ?_)
 rintro e w4 ⟨k0,k1,k2,k3,rfl,hkh,_,hd4,hs4⟩
 obtain ⟨Q,rfl,rfl,rfl,rfl⟩:=four_fn k0 k1 k2 k3
 have HQ:Hid (∀j,j<4→Has S A t (Q j) (T2 P k j (3-j))):=fun j hj=>by
  obtain ⟨g0,g1,g2,g3⟩:=hkh rfl
  rcases four_cases hj with rfl | rfl | rfl | rfl<;>assumption
 have HD5:=Lib.hid (hd4.alloc (.cells #[.int .i64 (Q 0),.int .i64 (Q 1),.int .i64 (Q 2),.int .i64 (Q 3)] 22))
 have HS5:=Lib.hid ((HS3.out.trans hs4).alloc (.cells #[.int .i64 (Q 0),.int .i64 (Q 1),.int .i64 (Q 2),.int .i64 (Q 3)] 22))
 have HQ5:Hid (Blk (w4.alloc (.cells #[.int .i64 (Q 0),.int .i64 (Q 1),.int .i64 (Q 2),.int .i64 (Q 3)] 22)) w4.heap.size 22 (QC Q)):=Blk.new w4 _ _
 have HQO:Hid (¬(Own p R w4.heap.size∨w4.heap.size=w.heap.size)):=fun ho=>by
  have h1:=hd4.blk.lt
  rcases ho with ho | ho
  ·have:=hd4.arm.own_lt ho;omega
  ·omega
 have c2':=HD5.out.c2
 have HE:=Lib.hid (hempty_any _ w.heap.size 182 [] p R S A t 0 HD5.out k (by have:=HKK.out;omega))
 clear hkh hd4 hs4 HKD c2
 have hkb:(k:Int)≤42:=by have:=HKK.out;omega
 go_wp2_with fail
 (with_reducible refine HE.out.mono ?_)
 rintro e w6 ⟨rE,S4,A4,R4,bad4,rfl,hm4,hh4,hd6,hs6⟩
 have HM4:=Lib.hid hm4
 have HHE:=Lib.hid hh4
 have HD6:=Lib.hid hd6
 have HS6:=Lib.hid (HS5.out.trans hs6)
 have HQ6:Hid (Blk w6 w4.heap.size 22 (QC Q)):=HQ5.out.mod hs6.mod HQO.out
 have HQO6:Hid (¬Own p R4 w4.heap.size):=hs6.not HQ5.out.lt (fun ho=>HQO.out (.inl ho))
 have HQW:Hid (w4.heap.size≠w.heap.size):=fun e=>HQO.out (.inr e)
 clear hm4 hh4 hd6 hs6 HE c2' HD5 HS5 HQ5 HQO
 generalize w4.heap.size=qb at HQ6 HQO6 HQW ⊢
 have HPH:Hid (w6.heap.size≠w.heap.size):=fun e=>by have:=HD6.out.blk.lt;omega
 have HPQ:Hid (qb≠w6.heap.size):=Nat.ne_of_lt HQ6.out.lt
 have HPL:Hid (w6.heap.size<(w6.alloc (.cells #[.int .i64 0,.int .i64 0,.int .i64 0,.int .i64 0] 22)).heap.size):=(Blk.new w6 22 #[.int .i64 0,.int .i64 0,.int .i64 0,.int .i64 0]).lt
 have HPN:Hid (¬Own p R4 w6.heap.size):=fun ho=>Nat.lt_irrefl _ (HD6.out.arm.own_lt ho)
 have HIS:=Lib.hid (QuadI.start (HD6.out.alloc (.cells #[.int .i64 0,.int .i64 0,.int .i64 0,.int .i64 0] 22)) (Blk.new w6 22 #[.int .i64 0,.int .i64 0,.int .i64 0,.int .i64 0]) (wrapT P k))
 have HQ7:=Lib.hid (HQ6.out.alloc (.cells #[.int .i64 0,.int .i64 0,.int .i64 0,.int .i64 0] 22))
 have HS7:=Lib.hid (HS6.out.alloc (.cells #[.int .i64 0,.int .i64 0,.int .i64 0,.int .i64 0] 22))
 have HPW:Hid (w.heap.size<w6.heap.size):=HD6.out.blk.lt
 clear HQ6 HS6 HD6
 go_wp2_with fail
 generalize World.alloc w6 _=w7 at HIS HQ7 HS7 HPL ⊢
 generalize w6.heap.size=pb at HIS HPL HPN HPH HPQ HPW ⊢
 go_loopw [43] (fun jv wx=>∃(j:Nat) (V:Nat→Int) (S':ArS) (A':Nat→Abs) (R':ArR) (bad':Int),jv= .int .i64 j∧j≤4∧QuadI w7 w.heap.size pb 182 [] p R4 S4 A4 t bad4 (wrapT P k) j V S' A' R' bad' wx) (fun jv _=>4-(intOf jv).toNat)
 case atStart=>exact ⟨0,_,S4,A4,R4,bad4,rfl,Nat.zero_le _,HIS.out⟩
 case round=>
  obtain ⟨j,V,S',A',R',bad',rfl,hj,hI⟩:=hrel
  have HI:=Lib.hid hI
  clear hI
  by_cases hj4:j<4
  ·have HQB:Hid (Blk wr qb 22 (QC Q)):=HQ7.out.mod HI.out.st.mod fun ho=>by
    rcases ho with ho | ho | ho
    ·exact HQO6.out ho
    ·exact HQW.out ho
    ·exact HPQ.out ho
   clear hj
   rcases four_cases hj4 with rfl | rfl | rfl | rfl
   all_goals clear hj4
   ·have c0:(wr.alloc (.cells #[.int .i64 rE,.int .i64 rE,.int .i64 rE,.int .i64 rE] 22)).cell? ⟨qb,0,none⟩=some (.int .i64 (Q 0)):=(World.cell?_alloc_lt wr _ ⟨qb,0,none⟩ HQB.out.lt).trans (HQB.out.cellS (QC_get Q (k:=0) (by decide)))
    have hee:bad'=0→Has S' A' t rE (emptyT k):=fun e=>(HHE.out (HI.out.made.ok e).1).st HI.out.hd.ht HI.out.made.st
    have hqq:bad'=0→Has S' A' t (Q 0) (T2 P k 0 3):=fun _=>((HQ.out 0 (by decide)).st HI.out.hd.ht HM4.out.st).st HI.out.hd.ht HI.out.made.st
    have HJ:Hid (Calls Tryz.prog 151 #[.pointer (some ⟨w.heap.size,0,none⟩),.agg #[.int .i64 rE,.int .i64 rE,.int .i64 rE,.int .i64 (Q 0)]] (wr.alloc (.cells #[.int .i64 rE,.int .i64 rE,.int .i64 rE,.int .i64 (Q 0)] 22)) (HandPost (wr.alloc (.cells #[.int .i64 rE,.int .i64 rE,.int .i64 rE,.int .i64 (Q 0)] 22)) w.heap.size 182 [] p R' S' A' t bad' (wrapT P k 0))):=
     hjoin_any _ w.heap.size 182 [] p R' S' A' t bad' (HI.out.hd.alloc _) _ _ _ _ _ _ _ _ k (fun e=>⟨by rw [T2_clip P (by decide) (by decide)];exact hee e,by rw [T2_clip P (by decide) (by decide)];exact hee e,by rw [T2_clip P (by decide) (by decide)];exact hee e,by rw [T2_clip P (by decide) (by decide)];exact hqq e⟩) ⟨T2_lvl _ _ _ _,T2_lvl _ _ _ _,T2_lvl _ _ _ _,T2_lvl _ _ _ _⟩ (by have:=HKK.out;omega)
    clear hee hqq
    go_wp2_with fail
    (with_reducible refine HJ.out.mono ?_)
    rintro e w8 ⟨r,S5,A5,R5,bad5,rfl,hm,hh,hd,hst⟩
    obtain ⟨g0,g1,g2⟩:=HI.out.step HPL.out HPN.out HPH.out (by decide) hm hh hd (((StepH.refl (fun b=>b=w.heap.size) p R' wr).alloc _).trans hst)
    have HG:=Lib.hid g2
    clear g2 hm hh hd hst HJ c0
    go_wp2_with fail
    go_roundw
    case rel=>exact ⟨1,_,S5,A5,R5,bad5,by go_num,by decide,HG.out⟩
    case measure=>simp [intOf]
   ·have c0:(wr.alloc (.cells #[.int .i64 rE,.int .i64 rE,.int .i64 rE,.int .i64 rE] 22)).cell? ⟨qb,1,none⟩=some (.int .i64 (Q 1)):=(World.cell?_alloc_lt wr _ ⟨qb,1,none⟩ HQB.out.lt).trans (HQB.out.cellS (QC_get Q (k:=1) (by decide)))
    have hee:bad'=0→Has S' A' t rE (emptyT k):=fun e=>(HHE.out (HI.out.made.ok e).1).st HI.out.hd.ht HI.out.made.st
    have hqq:bad'=0→Has S' A' t (Q 1) (T2 P k 1 2):=fun _=>((HQ.out 1 (by decide)).st HI.out.hd.ht HM4.out.st).st HI.out.hd.ht HI.out.made.st
    have HJ:Hid (Calls Tryz.prog 151 #[.pointer (some ⟨w.heap.size,0,none⟩),.agg #[.int .i64 rE,.int .i64 rE,.int .i64 (Q 1),.int .i64 rE]] (wr.alloc (.cells #[.int .i64 rE,.int .i64 rE,.int .i64 (Q 1),.int .i64 rE] 22)) (HandPost (wr.alloc (.cells #[.int .i64 rE,.int .i64 rE,.int .i64 (Q 1),.int .i64 rE] 22)) w.heap.size 182 [] p R' S' A' t bad' (wrapT P k 1))):=
     hjoin_any _ w.heap.size 182 [] p R' S' A' t bad' (HI.out.hd.alloc _) _ _ _ _ _ _ _ _ k (fun e=>⟨by rw [T2_clip P (by decide) (by decide)];exact hee e,by rw [T2_clip P (by decide) (by decide)];exact hee e,by rw [T2_clip P (by decide) (by decide)];exact hqq e,by rw [T2_clip P (by decide) (by decide)];exact hee e⟩) ⟨T2_lvl _ _ _ _,T2_lvl _ _ _ _,T2_lvl _ _ _ _,T2_lvl _ _ _ _⟩ (by have:=HKK.out;omega)
    clear hee hqq
    go_wp2_with fail
    (with_reducible refine HJ.out.mono ?_)
    rintro e w8 ⟨r,S5,A5,R5,bad5,rfl,hm,hh,hd,hst⟩
    obtain ⟨g0,g1,g2⟩:=HI.out.step HPL.out HPN.out HPH.out (by decide) hm hh hd (((StepH.refl (fun b=>b=w.heap.size) p R' wr).alloc _).trans hst)
    have HG:=Lib.hid g2
    clear g2 hm hh hd hst HJ c0
    go_wp2_with fail
    go_roundw
    case rel=>exact ⟨2,_,S5,A5,R5,bad5,by go_num,by decide,HG.out⟩
    case measure=>simp [intOf]
   ·have c0:(wr.alloc (.cells #[.int .i64 rE,.int .i64 rE,.int .i64 rE,.int .i64 rE] 22)).cell? ⟨qb,2,none⟩=some (.int .i64 (Q 2)):=(World.cell?_alloc_lt wr _ ⟨qb,2,none⟩ HQB.out.lt).trans (HQB.out.cellS (QC_get Q (k:=2) (by decide)))
    have hee:bad'=0→Has S' A' t rE (emptyT k):=fun e=>(HHE.out (HI.out.made.ok e).1).st HI.out.hd.ht HI.out.made.st
    have hqq:bad'=0→Has S' A' t (Q 2) (T2 P k 2 1):=fun _=>((HQ.out 2 (by decide)).st HI.out.hd.ht HM4.out.st).st HI.out.hd.ht HI.out.made.st
    have HJ:Hid (Calls Tryz.prog 151 #[.pointer (some ⟨w.heap.size,0,none⟩),.agg #[.int .i64 rE,.int .i64 (Q 2),.int .i64 rE,.int .i64 rE]] (wr.alloc (.cells #[.int .i64 rE,.int .i64 (Q 2),.int .i64 rE,.int .i64 rE] 22)) (HandPost (wr.alloc (.cells #[.int .i64 rE,.int .i64 (Q 2),.int .i64 rE,.int .i64 rE] 22)) w.heap.size 182 [] p R' S' A' t bad' (wrapT P k 2))):=
     hjoin_any _ w.heap.size 182 [] p R' S' A' t bad' (HI.out.hd.alloc _) _ _ _ _ _ _ _ _ k (fun e=>⟨by rw [T2_clip P (by decide) (by decide)];exact hee e,by rw [T2_clip P (by decide) (by decide)];exact hqq e,by rw [T2_clip P (by decide) (by decide)];exact hee e,by rw [T2_clip P (by decide) (by decide)];exact hee e⟩) ⟨T2_lvl _ _ _ _,T2_lvl _ _ _ _,T2_lvl _ _ _ _,T2_lvl _ _ _ _⟩ (by have:=HKK.out;omega)
    clear hee hqq
    go_wp2_with fail
    (with_reducible refine HJ.out.mono ?_)
    rintro e w8 ⟨r,S5,A5,R5,bad5,rfl,hm,hh,hd,hst⟩
    obtain ⟨g0,g1,g2⟩:=HI.out.step HPL.out HPN.out HPH.out (by decide) hm hh hd (((StepH.refl (fun b=>b=w.heap.size) p R' wr).alloc _).trans hst)
    have HG:=Lib.hid g2
    clear g2 hm hh hd hst HJ c0
    go_wp2_with fail
    go_roundw
    case rel=>exact ⟨3,_,S5,A5,R5,bad5,by go_num,by decide,HG.out⟩
    case measure=>simp [intOf]
   ·have c0:(wr.alloc (.cells #[.int .i64 rE,.int .i64 rE,.int .i64 rE,.int .i64 rE] 22)).cell? ⟨qb,3,none⟩=some (.int .i64 (Q 3)):=(World.cell?_alloc_lt wr _ ⟨qb,3,none⟩ HQB.out.lt).trans (HQB.out.cellS (QC_get Q (k:=3) (by decide)))
    have hee:bad'=0→Has S' A' t rE (emptyT k):=fun e=>(HHE.out (HI.out.made.ok e).1).st HI.out.hd.ht HI.out.made.st
    have hqq:bad'=0→Has S' A' t (Q 3) (T2 P k 3 0):=fun _=>((HQ.out 3 (by decide)).st HI.out.hd.ht HM4.out.st).st HI.out.hd.ht HI.out.made.st
    have HJ:Hid (Calls Tryz.prog 151 #[.pointer (some ⟨w.heap.size,0,none⟩),.agg #[.int .i64 (Q 3),.int .i64 rE,.int .i64 rE,.int .i64 rE]] (wr.alloc (.cells #[.int .i64 (Q 3),.int .i64 rE,.int .i64 rE,.int .i64 rE] 22)) (HandPost (wr.alloc (.cells #[.int .i64 (Q 3),.int .i64 rE,.int .i64 rE,.int .i64 rE] 22)) w.heap.size 182 [] p R' S' A' t bad' (wrapT P k 3))):=
     hjoin_any _ w.heap.size 182 [] p R' S' A' t bad' (HI.out.hd.alloc _) _ _ _ _ _ _ _ _ k (fun e=>⟨by rw [T2_clip P (by decide) (by decide)];exact hqq e,by rw [T2_clip P (by decide) (by decide)];exact hee e,by rw [T2_clip P (by decide) (by decide)];exact hee e,by rw [T2_clip P (by decide) (by decide)];exact hee e⟩) ⟨T2_lvl _ _ _ _,T2_lvl _ _ _ _,T2_lvl _ _ _ _,T2_lvl _ _ _ _⟩ (by have:=HKK.out;omega)
    clear hee hqq
    go_wp2_with fail
    (with_reducible refine HJ.out.mono ?_)
    rintro e w8 ⟨r,S5,A5,R5,bad5,rfl,hm,hh,hd,hst⟩
    obtain ⟨g0,g1,g2⟩:=HI.out.step HPL.out HPN.out HPH.out (by decide) hm hh hd (((StepH.refl (fun b=>b=w.heap.size) p R' wr).alloc _).trans hst)
    have HG:=Lib.hid g2
    clear g2 hm hh hd hst HJ c0
    go_wp2_with fail
    go_roundw
    case rel=>exact ⟨4,_,S5,A5,R5,bad5,by go_num,by decide,HG.out⟩
    case measure=>simp [intOf]
  ·have hj5:j=4:=by omega
   subst hj5
   have v0:=HI.out.q.cellS (QC_get V (k:=0) (by decide))
   have v1:=HI.out.q.cellS (QC_get V (k:=1) (by decide))
   have v2:=HI.out.q.cellS (QC_get V (k:=2) (by decide))
   have v3:=HI.out.q.cellS (QC_get V (k:=3) (by decide))
   have HJ:=Lib.hid (hjoin_any wr w.heap.size 182 [] p R' S' A' t bad' HI.out.hd (V 0) (V 1) (V 2) (V 3) _ _ _ _ ((k+1:Nat):Int) (fun e=>⟨HI.out.has e 0 (by decide),HI.out.has e 1 (by decide),HI.out.has e 2 (by decide),HI.out.has e 3 (by decide)⟩) ⟨wrapT_lvl P k 0,wrapT_lvl P k 1,wrapT_lvl P k 2,wrapT_lvl P k 3⟩ (by have:=HKK.out;omega))
   clear hj hj4
   go_wp2_with fail
   (with_reducible refine HJ.out.mono ?_)
   rintro e w8 ⟨r,S5,A5,R5,bad5,rfl,hm,hh,hd,hst⟩
   have HM5:=Lib.hid (wrap_made HREL.out HI.out.hd.ht HR.out.2 HM4.out HI.out.made hm)
   have HH5:Hid (bad5=0→Has S5 A5 t r (rootT (clipP P k) (k+1))):=by rw [wrapT_all];exact hh
   have c2:=hd.c2
   have HF:=Lib.hid (fun w9 (hb9:Below w8.heap.size w8 w9)=>show WrapPost w p R S A t P k (.returned (.tuple #[.int .i64 (if bad5=0 then r else 0),.int .i64 bad5])) w9 from
    ⟨r,S5,A5,R5,bad5,rfl,HM5.out,HH5.out,(hd.below hb9).ar,((((StepH.of_below HB2.out).trans (HS7.out.wide fun b _ e=> .inl e)).trans ((HI.out.st.trans (hst.wide fun b _ e=> .inl e)))).wide fun b hb e=>by
     have:=HPW.out
     rcases e with e | e<;>omega).below hb9⟩)
   clear hm hh hd hst v0 v1 v2 v3 HJ
   go_wp2_with fail
   (with_reducible refine (done_any w8 _ bad5 c2 r).mono ?_)
   rintro e w9 ⟨rfl,hb9⟩
   have HF2:=Lib.hid (HF.out w9 hb9)
   clear hb9 HF c2
   generalize (if bad5=0 then r else 0)=rr at HF2 ⊢
   go_wp2_with fail
   go_returns
   exact HF2.out
end Go.Proofs.YthohnjgnpapnoaaGreatDoor
namespace Go.Proofs.YthohnjgnpapnoaaGreatDoor
open Go.RowKit
def Supp (P:Int→Int→Bool) (k:Nat):Prop:=∀a b,P a b=true→-2^k≤a∧a<2^k∧-2^k≤b∧b<2^k
theorem Supp.up {P:Int→Int→Bool} {k m:Nat} (h:Supp P k) (hm:k≤m):Supp P m:=fun a b hp=>by
 have:=h a b hp
 have h2:(2:Int)^k≤2^m:=by
  have:=Nat.pow_le_pow_right (n:=2) (by decide) hm
  have e:∀n:Nat,((2^n:Nat):Int)=(2:Int)^n:=fun n=>by simp
  rw [←e,←e];omega
 omega
theorem Supp.clip {P:Int→Int→Bool} {k:Nat} (h:Supp P k):clipP P k=P:=by
 funext a b
 unfold clipP
 by_cases e:P a b=true
 ·rw [e,decide_eq_true (h a b e)];rfl
 ·simp at e;rw [e];rfl
def leapK (k j:Nat):Nat:=max (k+2) (j+2)
def wrapsL (P:Int→Int→Bool) (k:Nat):Nat→List Thing
 | 0=>[]
 | n+1=>wrapsL P k n++wrapL P (k+n)
def LeapC (b l:Int) (P:Int→Int→Bool) (k j:Nat) (V:List Thing):Prop:=(∀x∈wrapsL P k (leapK k j-k),x∈V)∧Clo b l (leapK k j-1) (rootT P (leapK k j)) j V
def LeapD (b l:Int) (P:Int→Int→Bool) (k j:Nat) (V:List Thing):Prop:=LeapC b l P k j V∧∀x∈peelL (evN b l (2^j) P) (leapK k j-1),x∈V
theorem LeapC.mono {b l:Int} {P:Int→Int→Bool} {k j:Nat} {V V':List Thing} (h:LeapC b l P k j V) (hv:∀x∈V,x∈V'):LeapC b l P k j V':=⟨fun x hx=>hv x (h.1 x hx),h.2.mono hv⟩
theorem LeapD.mono {b l:Int} {P:Int→Int→Bool} {k j:Nat} {V V':List Thing} (h:LeapD b l P k j V) (hv:∀x∈V,x∈V'):LeapD b l P k j V':=⟨h.1.mono hv,fun x hx=>hv x (h.2 x hx)⟩
def LeapPost (w:World) (p:Nat) (R:ArR) (S:ArS) (A:Nat→Abs) (t:Nat) (b l:Int) (P:Int→Int→Bool) (k j:Nat) (e:Ending) (w':World):Prop:=
 ∃(κ:Nat) (L:List Thing) (r:Int) (S':ArS) (A':Nat→Abs) (R':ArR) (bad':Int),e= .returned (.tuple #[.int .i64 (if bad'=0 then r else 0),.int .i64 bad'])∧L.length≤leapK k j∧Grew t (fun V=>LeapC b l P k j V∧∀x∈L,x∈V) S A 0 S' A' bad'∧
  (bad'=0→Has S' A' t r (rootT (evN b l (2^j) P) κ)∧1≤κ∧κ≤leapK k j-1∧Fits (evN b l (2^j) P) (leapK k j-1) κ∧(κ=1∨¬Fits (evN b l (2^j) P) κ (κ-1)))∧Ar w' p R' S' A'∧StepH NoX p R R' w w'∧(∀x∈L,x∈peelL (evN b l (2^j) P) (leapK k j-1))∧(bad'=0→LeapD b l P k j (A' t).have_)
theorem wrapsL_mono {P:Int→Int→Bool} {k:Nat}:∀{i m:Nat},i≤m→∀x∈wrapsL P k i,x∈wrapsL P k m
 | i,0,h,x,hx=>by
   obtain rfl:i=0:=by omega
   exact hx
 | i,m+1,h,x,hx=>by
   by_cases e:i=m+1
   ·subst e;exact hx
   ·exact List.mem_append_left _ (wrapsL_mono (by omega) x hx)
structure LeapI (w:World) (p:Nat) (R:ArR) (S:ArS) (A:Nat→Abs) (t:Nat) (b l:Int) (P:Int→Int→Bool) (k i:Nat) (r:Int) (S':ArS) (A':Nat→Abs) (R':ArR) (wx:World):Prop where
 ar:Ar wx p R' S' A'
 has:Has S' A' t r (rootT P (k+i))
 gr:Grew t (fun V=>∀x∈wrapsL P k i,x∈V) S A 0 S' A' 0
 told:∀x∈wrapsL P k i,x∈(A' t).have_
 st:StepH NoX p R R' w wx
 blk:Blk wx w.heap.size 54 #[.int .i64 b,.int .i64 l]
 no:¬Own p R' w.heap.size
section
variable {w wx w1 : World} {p : Nat} {R R' R2 : ArR} {S S' S2 : ArS} {A A' A2 : Nat → Abs} {t : Nat} {b l : Int} {P : Int → Int → Bool} {k i j : Nat} {r r2 bad2 : Int}
theorem LeapI.wrapG (_h:LeapI w p R S A t b l P k i r S' A' R' wx) (hm:Made t (wrapL P (k+i)) S' A' 0 S2 A2 bad2) (hg0:Grew t (fun V=>∀x∈wrapsL P k i,x∈V) S A 0 S' A' 0):Grew t (fun V=>∀x∈wrapsL P k (i+1),x∈V) S A 0 S2 A2 bad2:=
 (hg0.mono fun _ hV x hx=>hV x (List.mem_append_left _ hx)).trans (hm.grew.mono fun _ hV x hx=>hV x (List.mem_append_right _ hx))
theorem LeapI.next (h:LeapI w p R S A t b l P k i r S' A' R' wx) (hs:Supp P k) (hm:Made t (wrapL P (k+i)) S' A' 0 S2 A2 0) (hh:Has S2 A2 t r2 (rootT (clipP P (k+i)) (k+i+1))) (ha:Ar w1 p R2 S2 A2) (hst:StepH NoX p R' R2 wx w1):LeapI w p R S A t b l P k (i+1) r2 S2 A2 R2 w1:=by
 rw [(hs.up (Nat.le_add_right k i)).clip] at hh
 exact ⟨ha,hh,h.wrapG hm h.gr,fun x hx=>(List.mem_append.1 hx).elim (fun q=>hm.st.mono x (h.told x q)) (fun q=>((hm.ok rfl).2.1 x).2 (.inr q)),h.st.trans hst,hst.keepX h.blk h.no (fun h=>h),hst.not h.blk.lt h.no⟩
theorem leap_bad (h:LeapI w p R S A t b l P k i r S' A' R' wx) (hi:k+i<leapK k j) (hm:Made t (wrapL P (k+i)) S' A' 0 S2 A2 bad2) (hb:bad2≠0) (ha:Ar w1 p R2 S2 A2) (hst:StepH NoX p R' R2 wx w1):LeapPost w p R S A t b l P k j (.returned (.tuple #[.int .i64 0,.int .i64 bad2])) w1:=
 ⟨1,[],0,S2,A2,R2,bad2,by rw [if_neg hb],Nat.zero_le _,(h.wrapG hm h.gr).mono fun V hV x hx=>hV.1.1 x (wrapsL_mono (by omega) x hx),fun e=>absurd e hb,ha,h.st.trans hst,(fun x hx=>by cases hx),fun e=>absurd e hb⟩
end
theorem Ar.lp {w:World} {p:Nat} {R:ArR} {S:ArS} {A:Nat→Abs} (h:Ar w p R S A) {t:Nat} (ht:t<64) (b l:Int):Lp (w.alloc (.cells (lpC p t b l 0) 280)) w.heap.size p R S A t b l 0:=
 ⟨h.arm.alloc _,Blk.new w _ _,fun ho=>by have:=h.arm.own_lt ho;omega,h.rel,h.add,ht⟩
theorem Lp.ar {w:World} {hb p:Nat} {R:ArR} {S:ArS} {A:Nat→Abs} {t:Nat} {b l bad:Int} (h:Lp w hb p R S A t b l bad):Ar w p R S A:=⟨h.arm,h.rel,h.add⟩
theorem res_root (b l:Int) (P:Int→Int→Bool) (n j:Nat) (hj:j≤n):resT b l n (rootT P (n+1)) (j:Int)=rootT (evN b l (2^j) P) n:=by
 unfold rootT
 rw [resT_of b l n P _ _ j hj]
 have h:(2:Int)^(n+1)=2^n*2:=Int.pow_succ 2 n
 congr 1<;>omega
theorem stepH_new {w w1 w2 w3:World} {p hb:Nat} {R R1 R2:ArR} (h:StepH NoX p R R1 w w1) (hb2:w.heap.size≤hb) (hs:StepH (fun b=>b=hb) p R1 R2 w2 w3) (ha:StepH NoX p R1 R1 w1 w2):StepH NoX p R R2 w w3:=by
 have:=((h.wide (Y:=fun b=>b=hb) (fun _ _ h=>h.elim)).trans (ha.wide (Y:=fun b=>b=hb) (fun _ _ h=>h.elim))).trans hs
 exact this.wide fun b hlt e=>by omega
set_option maxRecDepth 100000 in
set_option maxHeartbeats 6400000 in
theorem leap_any (w:World) (p:Nat) (R:ArR) (S:ArS) (A:Nat→Abs) (h:Ar w p R S A) (t:Nat) (ht:t<64) (b l:Int) (hg:goodR b l) (P:Int→Int→Bool) (k:Nat) (h1:1≤k) (hk:k≤41) (hs:Supp P k) (j:Nat) (hj:j≤30) (root:Int) (hr:Has S A t root (rootT P k)):
 Calls Tryz.prog 162 #[.pointer (some ⟨p,0,none⟩),.int .i64 t,.agg #[.int .i64 b,.int .i64 l],.int .i64 root,.int .i64 j] w (LeapPost w p R S A t b l P k j):=by
 have HA:=Lib.hid h
 have HGD:=Lib.hid (fun w=>good_true w b l hg)
 have HG:=Lib.hid hg
 have HR:=Lib.hid hr
 have HS:=Lib.hid hs
 have hown:ownsB S t root 0=true:=by rw [h.rel.owns ht hr.1];exact hr.2
 have hlev:levelOf S root=(k:Int)+1:=by rw [hr.1.level h.rel.inv,rootT_lvl]
 have HLV0:=Lib.hid (fun W (hW:ArM W p R S)=>level_any W p R S hW h.rel.inv.len t ht root)
 rw [hown] at HLV0
 have HLV:Hid (∀W,ArM W p R S→Calls Tryz.prog 190 #[.pointer (some ⟨p,0,none⟩),.int .i64 t,.int .i64 root] W fun e w'=>e= .returned (.tuple #[.int .i64 ((k:Int)+1),.int .i64 0])∧W=w'):=by rw [←hlev];exact HLV0.out
 clear HLV0
 have hk0:1≤(k:Int):=by omega
 have hk1:(k:Int)≤41:=by omega
 have hj0:(j:Int)≤30:=by omega
 clear h hg hr hs hown hlev
 go_enter Tryz.func162,Tryz.ntmps162
 go_wp2_with fail
 have hb1:Below w.heap.size w (w.alloc (.cells #[.int .i64 b,.int .i64 l] 54)):=(Below.refl _ _).alloc (Nat.le_refl _) _
 have HB1:Hid (Blk (w.alloc (.cells #[.int .i64 b,.int .i64 l] 54)) w.heap.size 54 #[.int .i64 b,.int .i64 l]):=Blk.new _ _ _
 have HA1:=Lib.hid (HA.out.below hb1)
 have HS1:Hid (StepH NoX p R R w (w.alloc (.cells #[.int .i64 b,.int .i64 l] 54))):=StepH.of_below hb1 |>.wide fun _ _ h=>h
 have HZ:Hid (¬Own p R w.heap.size):=fun ho=>Nat.lt_irrefl _ (HA.out.arm.own_lt ho)
 clear hb1
 generalize w.alloc (.cells #[.int .i64 b,.int .i64 l] 54)=w1 at*
 (with_reducible refine (HGD.out w1).mono ?_)
 rintro e w2 ⟨rfl,hb2⟩
 have HA2:=Lib.hid (HA1.out.below hb2)
 have HB2:=Lib.hid (HB1.out.mod (Mod.of_below_all hb2) id)
 have HS2:Hid (StepH NoX p R R w w2):=HS1.out.trans (StepH.of_below hb2)
 clear hb2 HA1 HB1 HS1
 go_wp2_with fail
 (with_reducible refine (HLV.out _ HA2.out.arm).mono ?_)
 rintro e wq ⟨rfl,rfl⟩
 have hmax:max ((k:Int)+1+2) ((j:Int)+3)=((leapK k j:Nat):Int)+1:=by unfold leapK;omega
 have HKB:Hid (k+2≤leapK k j∧j+2≤leapK k j∧leapK k j≤43):=by show _∧_∧_;unfold leapK;omega
 have H0:Hid (LeapI w p R S A t b l P k 0 root S A R w2):=⟨HA2.out,HR.out,Grew.refl HA2.out.rel t _ 0,(fun x hx=>by cases hx),HS2.out,HB2.out,HZ.out⟩
 generalize hKK:leapK k j=K at*
 have HKK:=Lib.hid hKK
 clear hKK
 go_wp2_with fail
 clear hmax
 go_loopw [12,3,13] (fun lv rt ev wx=>∃(i:Nat) (r:Int) (S':ArS) (A':Nat→Abs) (R':ArR),lv= .int .i64 (((k+i:Nat):Int)+1)∧k+i≤K∧rt= .int .i64 r∧ev= .int .i64 0∧LeapI w p R S A t b l P k i r S' A' R' wx) (fun lv _ _ _=>K+1-(intOf lv).toNat)
 case atStart=>exact ⟨0,root,S,A,R,rfl,by have:=HKB.out;omega,rfl,rfl,H0.out⟩
 case round=>
  obtain ⟨i,r,S',A',R',rfl,hi,rfl,rfl,hI⟩:=hrel
  have HI:=Lib.hid hI
  clear hI H0
  by_cases hlt:k+i<K
  ·have HLT:=Lib.hid hlt
   have HWR:=Lib.hid (wrap_any wr p R' S' A' HI.out.ar t ht P (k+i) (by have:=HKB.out;omega) r HI.out.has)
   have hci:((k+i:Nat):Int)+1<(K:Int)+1:=by omega
   have hci2:((k+i:Nat):Int)≤43:=by have:=HKB.out;omega
   clear hlt hi
   generalize hki:k+i=m at*
   have HKI:=Lib.hid hki
   clear hki
   go_wp2_with fail
   (with_reducible refine HWR.out.mono ?_)
   rintro e w5 ⟨r2,S2,A2,R2,bad2,rfl,hm,hh,ha,hs5⟩
   by_cases hb:bad2=0
   ·subst hb
    have HN:=Lib.hid (HI.out.next HS.out (by rw [HKI.out];exact hm) (by rw [HKI.out];exact hh rfl) ha hs5)
    clear hm hh ha hs5 HWR
    rw [if_pos rfl]
    go_wp2_with fail
    go_roundw
    case rel=>exact ⟨i+1,r2,S2,A2,R2,congrArg (Value.int .i64) (by have e:k+i=m:=HKI.out;omega),by have e:k+i=m:=HKI.out;have e2:m<K:=HLT.out;omega,rfl,rfl,HN.out⟩
    case measure=>simp [intOf];omega
   ·have hb8:(bad2==0)=false:=beq_eq_false_iff_ne.2 hb
    have HBD:Hid (LeapPost w p R S A t b l P k j (.returned (.tuple #[.int .i64 0,.int .i64 bad2])) w5):=leap_bad HI.out (by rw [HKI.out,HKK.out];exact HLT.out) (by rw [HKI.out];exact hm) hb ha hs5
    rw [if_neg hb]
    clear hm hh ha hs5 HWR hb
    go_wp2_with fail
    go_returns
    exact HBD.out
  ·have hkiK:k+i=K:=by omega
   obtain ⟨n,rfl⟩:∃n,K=n+1:=⟨K-1,by have:=HKB.out;omega⟩
   have hn1:1≤n:=by have:=HKB.out;omega
   have hn2:n≤42:=by have:=HKB.out;omega
   have hjn:j≤n:=by have:=HKB.out;omega
   have HHR:Hid (Has S' A' t r (rootT P (n+1))):=by have:=HI.out.has;rw [hkiK] at this;exact this
   have c0:=HI.out.blk.cellS (i:=0) rfl
   have c1:=HI.out.blk.cellS (i:=1) rfl
   have HL6:=Lib.hid (HI.out.ar.lp ht b l)
   have HRS:=Lib.hid (result_any b l HG.out n (by omega) _ wr.heap.size p R' S' A' t 0 HL6.out r (rootT P (n+1)) (j:Int) (treeOf_pf _ _ _ _) (fun _=>HHR.out) (by omega) (by omega))
   rw [res_root b l P n j hjn] at HRS
   have HI2:Hid (i=leapK k j-k∧leapK k j=n+1):=by
    have e:leapK k j=n+1:=HKK.out
    show i=leapK k j-k∧leapK k j=n+1
    rw [e]
    exact ⟨by omega,rfl⟩
   have HN:=Lib.hid (And.intro hn1 (And.intro hn2 hjn))
   rw [hkiK,show ((n+1:Nat):Int)+1=(n:Int)+2 by omega]
   clear hkiK hlt hi hn1 hn2 hjn
   unfold lpC at HRS
   go_wp2_with fail
   (with_reducible refine HRS.out.mono ?_)
   intro e w7 hq
   unfold LpPostK at hq
   obtain ⟨r7,S7,A7,R7,bad7,rfl,hg7,hh7,hp7,hs7,hk7⟩:=hq
   have hlo:w.heap.size≤wr.heap.size:=HI.out.st.mod.size
   have HST:=Lib.hid (stepH_new HI.out.st hlo hs7 ((StepH.refl NoX p R' wr).alloc _))
   have HGW:Hid (Grew t (LeapC b l P k j) S A 0 S7 A7 bad7):=by
    refine (HI.out.gr.mono fun V hV=>?_).trans (hg7.mono fun V hV=>?_)
    ·rw [HI2.out.1];exact hV.1
    ·have:=hV.2
     rw [HI2.out.2] at this
     exact this
   have HLC:Hid (bad7=0→LeapC b l P k j (A7 t).have_):=fun e=>by
    refine ⟨fun x hx=>hg7.st.mono x (HI.out.told x (by rw [HI2.out.1];exact hx)),?_⟩
    rw [HI2.out.2]
    exact clo_of HG.out (hp7.rel.ok t hp7.ht).closed (treeOf_pf _ _ _ _) (hk7 e)
   have HH7:=Lib.hid hh7
   have HP7:=Lib.hid hp7
   have c4:=hp7.c4
   clear hg7 hh7 hp7 hs7 hk7 HRS HL6 hlo c0 c1
   by_cases hb:bad7=0
   ·subst hb
    have HPL:=Lib.hid (peel_any w7 p R7 S7 A7 HP7.out.ar t ht (evN b l (2^j) P) n HN.out.1 (by have:=HN.out;omega) r7 (HH7.out rfl))
    go_wp2_with fail
    (with_reducible refine HPL.out.mono ?_)
    intro e w8 hq
    unfold PeelPost at hq
    obtain ⟨κ,L,r8,S8,A8,R8,bad8,rfl,k1,k2,k3,hm8,hh8,ha8,hs8,hl8,hd8⟩:=hq
    have HFIN:Hid (LeapPost w p R S A t b l P k j (.returned (.tuple #[.int .i64 (if bad8=0 then r8 else 0),.int .i64 bad8])) w8):=
     ⟨κ,L,r8,S8,A8,R8,bad8,rfl,by have e:leapK k j=n+1:=HKK.out;rw [e];omega,(HGW.out.mono fun V hV=>hV.1).trans (hm8.grew.mono fun V hV=>hV.2),fun e=>⟨(hh8 e).1,k1,by have e2:leapK k j=n+1:=HKK.out;rw [e2];exact k2,by have e2:leapK k j=n+1:=HKK.out;rw [e2];exact (hh8 e).2.1,(hh8 e).2.2⟩,ha8,HST.out.trans hs8,by have e2:leapK k j=n+1:=HKK.out;rw [e2];exact hl8,fun e=>⟨(show LeapC b l P k j (A7 t).have_ from by first | exact HLC.out rfl | exact HLC.out trivial).mono hm8.st.mono,by have e2:leapK k j=n+1:=HKK.out;rw [e2];exact hd8 e⟩⟩
    clear hm8 hh8 ha8 hs8 hl8 hd8 HPL
    generalize (if bad8=0 then r8 else 0)=rr at HFIN ⊢
    go_wp2_with fail
    go_returns
    exact HFIN.out
   ·have hb8:(bad7==0)=false:=beq_eq_false_iff_ne.2 hb
    have HB:=Lib.hid hb
    have hb9:(bad7 !=0)=true:=by simp [hb]
    clear hb
    go_wp2_with fail
    go_region_law (fail)
    all_goals (
     go_wp2_with fail
     go_simp
     go_returns
     exact ⟨1,[],0,S7,A7,R7,bad7,by simp,Nat.zero_le _,HGW.out.mono fun V hV=>hV.1,fun e=>absurd e HB.out,HP7.out.drew.ar,HST.out.drew,(fun x hx=>by cases hx),fun e=>absurd e HB.out⟩)
end Go.Proofs.YthohnjgnpapnoaaGreatDoor
namespace Go.Proofs.YthohnjgnpapnoaaGreatDoor
open Go.RowKit
def Span (P:Int→Int→Bool) (lo hi:Int):Prop:=∀a c,P a c=true→lo≤a∧a<hi∧lo≤c∧c<hi
theorem supp_span {P:Int→Int→Bool} {k:Nat}:Supp P k↔Span P (-2^k) (2^k):=Iff.rfl
theorem Span.wide {P:Int→Int→Bool} {lo hi lo' hi':Int} (h:Span P lo hi) (h1:lo'≤lo) (h2:hi≤hi'):Span P lo' hi':=fun a c hp=>by
 have:=h a c hp;omega
theorem Span.ev {b l:Int} (hg:goodR b l) {P:Int→Int→Bool} {lo hi:Int} (h:Span P lo hi):Span (ev b l P) (lo-1) (hi+1):=fun a c hp=>by
 by_cases h0:P a c=true
 ·have:=h a c h0;omega
 ·have key:∀a' c',P a' c'=true→a'-1≤a→a≤a'+1→c'-1≤c→c≤c'+1→lo-1≤a∧a<hi+1∧lo-1≤c∧c<hi+1:=fun a' c' q h1 h2 h3 h4=>by
   have:=h a' c' q;omega
  have zero:∀a' c',P a' c'≠true→oneP P a' c'=0:=fun a' c' q=>by unfold oneP;rw [if_neg q]
  by_cases q1:P (a-1) (c-1)=true
  ·exact key _ _ q1 (by omega) (by omega) (by omega) (by omega)
  by_cases q2:P a (c-1)=true
  ·exact key _ _ q2 (by omega) (by omega) (by omega) (by omega)
  by_cases q3:P (a+1) (c-1)=true
  ·exact key _ _ q3 (by omega) (by omega) (by omega) (by omega)
  by_cases q4:P (a-1) c=true
  ·exact key _ _ q4 (by omega) (by omega) (by omega) (by omega)
  by_cases q5:P (a+1) c=true
  ·exact key _ _ q5 (by omega) (by omega) (by omega) (by omega)
  by_cases q6:P (a-1) (c+1)=true
  ·exact key _ _ q6 (by omega) (by omega) (by omega) (by omega)
  by_cases q7:P a (c+1)=true
  ·exact key _ _ q7 (by omega) (by omega) (by omega) (by omega)
  by_cases q8:P (a+1) (c+1)=true
  ·exact key _ _ q8 (by omega) (by omega) (by omega) (by omega)
  ·exfalso
   unfold Go.Proofs.YthohnjgnpapnoaaGreatDoor.ev nearP at hp
   rw [if_neg h0,zero _ _ q1,zero _ _ q2,zero _ _ q3,zero _ _ q4,zero _ _ q5,zero _ _ q6,zero _ _ q7,zero _ _ q8] at hp
   have hb:=hg.2.2
   unfold bitB at hp
   simp at hp
   omega
theorem Span.evN {b l:Int} (hg:goodR b l) {P:Int→Int→Bool} {lo hi:Int} (h:Span P lo hi):∀m:Nat,Span (evN b l m P) (lo-m) (hi+m)
 | 0=>by
   show Span P _ _
   exact h.wide (by omega) (by omega)
 | m+1=>by
   have:=(Span.evN hg h m).ev hg
   exact this.wide (by omega) (by omega)
theorem pow_mono2 {m n:Nat} (h:m≤n):(2:Int)^m≤2^n:=by
 have:=Nat.pow_le_pow_right (n:=2) (by decide) h
 have e:∀n:Nat,((2^n:Nat):Int)=(2:Int)^n:=fun n=>by simp
 rw [←e,←e];omega
theorem supp_leap {b l:Int} (hg:goodR b l) {P:Int→Int→Bool} {k j:Nat} (h:Supp P k):Supp (evN b l (2^j) P) (leapK k j-1):=by
 have h1:=Span.evN hg (supp_span.1 h) (2^j)
 have e:(((2:Nat)^j:Nat):Int)=(2:Int)^j:=by simp
 rw [e] at h1
 refine supp_span.2 (h1.wide ?_ ?_)
 all_goals
  have h2:=pow_mono2 (m:=k+1) (n:=leapK k j-1) (by unfold leapK;omega)
  have h3:=pow_mono2 (m:=j+1) (n:=leapK k j-1) (by unfold leapK;omega)
  rw [Int.pow_succ] at h2 h3
  omega
def Can (P:Int→Int→Bool) (k:Nat):Prop:=1≤k∧Supp P k∧(k=1∨¬Fits P k (k-1))
theorem Can.le {P:Int→Int→Bool} {k m:Nat} (h:Can P k) (hm:1≤m) (hs:Supp P m):k≤m:=by
 obtain ⟨h1,h2,h3⟩:=h
 rcases h3 with h3 | h3
 ·omega
 ·refine Nat.le_of_not_lt fun hlt=>h3 fun a c _ hp=>?_
  rw [inB_root]
  exact hs.up (by omega) a c hp
theorem Can.uniq {P:Int→Int→Bool} {k m:Nat} (h:Can P k) (h':Can P m):k=m:=Nat.le_antisymm (h.le h'.1 h'.2.1) (h'.le h.1 h.2.1)
theorem can_of {P:Int→Int→Bool} {k κ:Nat} (hs:Supp P k) (h1:1≤κ) (hf:Fits P k κ) (hc:κ=1∨¬Fits P κ (κ-1)):Can P κ:=
 ⟨h1,fun a c hp=>inB_root.1 (hf a c (inB_root.2 (hs a c hp)) hp),hc⟩
end Go.Proofs.YthohnjgnpapnoaaGreatDoor
namespace Go.Proofs.YthohnjgnpapnoaaGreatDoor
open Go.RowKit
structure WD where
 name:List UInt8
 root:Int
 k:Nat
 P:Int→Int→Bool
 b:Int
 l:Int
def wdV (x:WD):List Value:=[.string (str x.name),.int .i64 x.root,.int .i64 x.b,.int .i64 x.l]
def wdsV (l:List WD):List Value:=l.flatMap wdV
theorem wdsV_one {l:List WD}:∀u∈wdsV l,u.oneCell'=true:=fun u hu=>by
 obtain ⟨k,_,hk⟩:=List.mem_flatMap.1 hu
 simp [wdV] at hk
 rcases hk with rfl | rfl | rfl | rfl<;>rfl
theorem wdsV_at:∀(l:List WD) (i:Nat) (x:WD),l[i]? =some x→∀j,j<4→(wdsV l)[i*4+j]? =(wdV x)[j]?
 | [],i,x,h,_,_=>by simp at h
 | a::l,0,x,h,j,hj=>by
   have:a=x:=by simpa using h
   subst this
   rw [wdsV,List.flatMap_cons,List.getElem?_append_left (by simp [wdV];omega)]
   simp
 | a::l,i+1,x,h,j,hj=>by
   have h':l[i]? =some x:=by simpa using h
   rw [wdsV,List.flatMap_cons,List.getElem?_append_right (by simp [wdV];omega)]
   have:=wdsV_at l i x h' j hj
   rw [wdsV] at this
   rw [←this]
   congr 1
   simp [wdV]
   omega
def hlC (p t:Nat) (d:Int) (wv:Value) (ser:Int) (kv:Value):Array Value:=#[.pointer (some ⟨p,0,none⟩),.int .i64 t,.int .i64 d,wv,.int .i64 ser,kv]
def okP (P:Int→Int→Bool):Prop:=∀a b,P a b=true→okC (a,b)
structure WOk (S:ArS) (A:Nat→Abs) (t:Nat) (x:WD):Prop where
 has:Has S A t x.root (rootT x.P x.k)
 k1:1≤x.k
 k40:x.k≤40
 supp:Supp x.P x.k
 ok:okP x.P
 rule:goodR x.b x.l
 named:namedW x.name=true
structure Hl (w:World) (h p:Nat) (R:ArR) (S:ArS) (A:Nat→Abs) (t:Nat) (d:Int) (Ws:List WD) (wv:Value) (ser:Nat) (K:List KeyD) (kv:Value):Prop where
 ar:Ar w p R S A
 ht:t<64
 blk:Blk w h 104 (hlC p t d wv ser kv)
 no:¬Own p R h
 ws:Sl w 137 4 wv Ws.length (wdsV Ws)
 wno:∀b,sblk wv=some b→¬Own p R b∧b≠h
 ks:Rd w w.heap.size 3 kv K.length (keysV K)
 kno:∀b,sblk kv=some b→b<w.heap.size∧¬Own p R b∧b≠h∧sblk wv≠some b
 good:∀x∈Ws,WOk S A t x
 nodup:(Ws.map WD.name).Nodup
 len:Ws.length≤16
 klen:K.length≤32
def keyF (K:List KeyD) (text:List UInt8) (r:Int):List UInt8×Int:=
 match K.find? fun k=>decide (k.text=text) with
 | none=>([],6)
 | some k=>if bits .and .i64 k.rights r=r then (k.name.toList,0) else ([],10)
theorem str_of (b:ByteArray):str b.toList=b:=by
 rw [ByteArray.toList_eq]
 cases b
 simp [str]
theorem str_inj {a b:List UInt8} (h:str a=str b):a=b:=by
 have:=congrArg ByteArray.toList h
 rwa [str_toList,str_toList] at this
theorem keyF_post {K:List KeyD} {text:List UInt8} {r x:Int} {name:ByteArray} (h:FindPost K (str text) r name x):x=(keyF K text r).2∧(x=0→name=str (keyF K text r).1):=by
 unfold keyF
 rcases h with ⟨i,k,hk,ht,hf,h⟩ | ⟨hn,rfl,rfl⟩
 ·have hfi:K.find? (fun k=>decide (k.text=text))=some k:=by
   rw [List.find?_eq_some_iff_getElem]
   obtain ⟨hlt,hi⟩:=List.getElem?_eq_some_iff.1 hk
   exact ⟨by simp;exact str_inj ht,i,hlt,hi,fun j hj=>by
    have:=hf j K[j] hj (List.getElem?_eq_getElem (by omega))
    simp
    intro e
    exact this (by rw [e])⟩
  rw [hfi]
  rcases h with ⟨h1,rfl,rfl⟩ | ⟨h1,rfl,rfl⟩
  ·show (0:Int)=(if bits .and .i64 k.rights r=r then _ else _:List UInt8×Int).2∧(_→k.name=str (if bits .and .i64 k.rights r=r then _ else _:List UInt8×Int).1)
   rw [if_pos h1]
   exact ⟨rfl,fun _=>(str_of _).symm⟩
  ·show (10:Int)=(if bits .and .i64 k.rights r=r then _ else _:List UInt8×Int).2∧_
   rw [if_neg h1]
   exact ⟨rfl,fun e=>absurd e (by decide)⟩
 ·have hfi:K.find? (fun k=>decide (k.text=text))=none:=by
   rw [List.find?_eq_none]
   intro k hk
   obtain ⟨j,hj⟩:=List.getElem?_of_mem hk
   simp
   intro e
   exact hn j k hj (by rw [e])
  rw [hfi]
  exact ⟨rfl,fun e=>absurd e (by decide)⟩
def idxF (Ws:List WD) (nm:List UInt8):Option Nat:=Ws.findIdx? fun x=>decide (x.name=nm)
def hfind (Ws:List WD) (K:List KeyD) (name:List UInt8) (r:Int):Nat×Int:=
 let f:=if keyedW name then keyF K name r else (name,0)
 if f.2=0 then match idxF Ws f.1 with
  | some i=>(i,0)
  | none=>(0,6)
 else (0,f.2)
def FindHP (w:World) (wv:Value) (Ws:List WD) (K:List KeyD) (name:List UInt8) (r:Int) (e:Ending) (w':World):Prop:=
 ∃(ptr:Option Addr),e= .returned (.tuple #[.pointer ptr,.int .i64 (hfind Ws K name r).2])∧Below w.heap.size w w'∧
  ((hfind Ws K name r).2≠0→ptr=none)∧((hfind Ws K name r).2=0→(hfind Ws K name r).1<Ws.length∧∃b off cap,wv= .slice (some ⟨b,off,none⟩) Ws.length cap∧ptr=some ⟨b,off+(hfind Ws K name r).1*4,none⟩)
theorem idx_skip {Ws:List WD} {nm:List UInt8} {i:Nat} {x:WD} (h:∀j,j<i→∀y,Ws[j]? =some y→y.name≠nm) (hx:Ws[i]? =some x) (hn:x.name≠nm):∀j,j<i+1→∀y,Ws[j]? =some y→y.name≠nm:=fun j hj y hy=>by
 rcases Nat.lt_or_ge j i with q | q
 ·exact h j q y hy
 ·have:j=i:=by omega
  subst this;rw [hx] at hy;cases hy;exact hn
theorem idx_found {Ws:List WD} {nm:List UInt8} {i:Nat} {x:WD} (h:∀j,j<i→∀y,Ws[j]? =some y→y.name≠nm) (hx:Ws[i]? =some x) (hn:x.name=nm):idxF Ws nm=some i:=by
 unfold idxF
 obtain ⟨hlt,hi⟩:=List.getElem?_eq_some_iff.1 hx
 rw [List.findIdx?_eq_some_iff_getElem]
 exact ⟨hlt,by rw [hi];simp [hn],fun j hj=>by
  have:=h j hj _ (List.getElem?_eq_getElem (by omega))
  simp [this]⟩
theorem idx_none {Ws:List WD} {nm:List UInt8} (h:∀j,j<Ws.length→∀y,Ws[j]? =some y→y.name≠nm):idxF Ws nm=none:=by
 unfold idxF
 rw [List.findIdx?_eq_none_iff]
 intro x hx
 obtain ⟨j,hj⟩:=List.getElem?_of_mem hx
 have:=h j (List.getElem?_eq_some_iff.1 hj).1 x hj
 simp [this]
theorem name_eq (a b:List UInt8):((str a).toList==(str b).toList)=decide (a=b):=by
 rw [str_toList,str_toList]
 by_cases e:a=b
 ·subst e;simp
 ·rw [decide_eq_false e,beq_eq_false_iff_ne];exact e
theorem ws_cells {w:World} {wv:Value} {Ws:List WD} {i:Nat} {x:WD} (h:Sl w 137 4 wv Ws.length (wdsV Ws)) (hx:Ws[i]? =some x):∃b off cap,wv= .slice (some ⟨b,off,none⟩) Ws.length cap∧Ws.length≤cap∧cap≤maxLen∧
 w.cell? ⟨b,off+i*4,none⟩=some (.string (str x.name))∧w.cell? ⟨b,off+i*4+1,none⟩=some (.int .i64 x.root)∧w.cell? ⟨b,off+i*4+2,none⟩=some (.int .i64 x.b)∧w.cell? ⟨b,off+i*4+3,none⟩=some (.int .i64 x.l):=by
 have hlt:=(List.getElem?_eq_some_iff.1 hx).1
 obtain ⟨b,off,cap,hv,h1,h2,_,hc⟩:=h.rd.at (by omega)
 have c:∀j,j<4→∀u,(wdV x)[j]? =some u→w.cell? ⟨b,off+(i*4+j),none⟩=some u:=fun j hj u hu=>hc _ _ ((wdsV_at Ws i x hx j hj).trans hu)
 exact ⟨b,off,cap,hv,h1,h2,c 0 (by decide) _ rfl,c 1 (by decide) _ rfl,c 2 (by decide) _ rfl,c 3 (by decide) _ rfl⟩
end Go.Proofs.YthohnjgnpapnoaaGreatDoor
