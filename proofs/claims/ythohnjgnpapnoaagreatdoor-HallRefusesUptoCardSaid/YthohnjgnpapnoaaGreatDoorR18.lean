/- quad: Peel. -/
import Derived.Test.YthohnjgnpapnoaaGreatDoorR17
import Derived.Deep.DeepCutAuto
set_option linter.unusedVariables false
set_option linter.unusedSimpArgs false
namespace Go.Proofs.YthohnjgnpapnoaaGreatDoor
open Go.RowKit
open Classical in
noncomputable def peelL (P:Int→Int→Bool) (k:Nat):List Thing:=((List.range k).filter fun i=>decide (1≤i∧Fits P k i)).map fun i=>sqOf (rootT P i)
open Classical in
theorem mem_peelL {P:Int→Int→Bool} {k:Nat} {x:Thing}:x∈peelL P k↔∃i,i<k∧1≤i∧Fits P k i∧x=sqOf (rootT P i):=by
 unfold peelL
 rw [List.mem_map]
 constructor
 ·rintro ⟨i,hi,rfl⟩
  obtain ⟨h1,h2⟩:=List.mem_filter.1 hi
  have h3:=of_decide_eq_true h2
  exact ⟨i,List.mem_range.1 h1,h3.1,h3.2,rfl⟩
 ·rintro ⟨i,h1,h2,h3,rfl⟩
  exact ⟨i,List.mem_filter.2 ⟨List.mem_range.2 h1,decide_eq_true ⟨h2,h3⟩⟩,rfl⟩
def PeelPost (w:World) (p:Nat) (R:ArR) (S:ArS) (A:Nat→Abs) (t:Nat) (P:Int→Int→Bool) (k:Nat) (e:Ending) (w':World):Prop:=
 ∃(κ:Nat) (L:List Thing) (r:Int) (S':ArS) (A':Nat→Abs) (R':ArR) (bad':Int),e= .returned (.tuple #[.int .i64 (if bad'=0 then r else 0),.int .i64 bad'])∧1≤κ∧κ≤k∧L.length≤k∧Made t L S A 0 S' A' bad'∧(bad'=0→Has S' A' t r (rootT P κ)∧Fits P k κ∧(κ=1∨¬Fits P κ (κ-1)))∧Ar w' p R' S' A'∧StepH NoX p R R' w w'∧(∀x∈L,x∈peelL P k)∧(bad'=0→∀x∈peelL P k,x∈(A' t).have_)
structure PeelL (w1:World) (wb mb p:Nat) (R:ArR) (S:ArS) (A:Nat→Abs) (t:Nat) (P:Int→Int→Bool) (k κ:Nat) (r:Int) (L:List Thing) (S':ArS) (A':Nat→Abs) (R':ArR) (bad':Int) (K:List Int) (m:Int→Int) (wx:World):Prop where
 le:κ≤k
 len:L.length+κ≤k
 mem:∀x∈L,∃i,κ≤i∧i<k∧Fits P k i∧x=sqOf (rootT P i)
 all:∀i,κ≤i→i<k→sqOf (rootT P i)∈L
 made:Made t L S A 0 S' A' bad'
 has:bad'=0→Has S' A' t r (rootT P κ)∧Fits P k κ
 wk:Wk wx wb mb p R' S' A' t bad' K m
 st:StepH (WX wb mb) p R R' w1 wx
theorem peel_end {w w1 wx w':World} {wb mb p:Nat} {R R':ArR} {S S':ArS} {A A':Nat→Abs} {t:Nat} {P:Int→Int→Bool} {k κ:Nat} {r:Int} {L:List Thing} {bad':Int} {K:List Int} {m:Int→Int} (h:PeelL w1 wb mb p R S A t P k κ r L S' A' R' bad' K m wx) (h1:1≤κ) (hs:bad'=0→κ=1∨¬Fits P κ (κ-1)) (hb:Below w.heap.size w w1) (l1:w.heap.size≤wb) (l2:w.heap.size≤mb) (hb':Below wx.heap.size wx w'):
 PeelPost w p R S A t P k (.returned (.tuple #[.int .i64 (if bad'=0 then r else 0),.int .i64 bad'])) w':=
 ⟨κ,L,r,S',A',R',bad',rfl,h1,h.le,by have:=h.len;omega,h.made,fun e=>⟨(h.has e).1,(h.has e).2,hs e⟩,(h.wk.hd.below hb').ar,(((StepH.of_below hb).trans h.st).wide fun b hlt e=>by
  rcases e with e | e
  ·omega
  ·omega).below hb',fun x hx=>by
  obtain ⟨i,a1,a2,a3,a4⟩:=h.mem x hx
  exact mem_peelL.2 ⟨i,a2,by omega,a3,a4⟩,fun e x hx=>by
  obtain ⟨i,a1,a2,a3,rfl⟩:=mem_peelL.1 hx
  refine ((h.made.ok e).2.1 _).2 (.inr (h.all i ?_ a1))
  rcases hs e with q | q
  ·omega
  ·refine Nat.le_of_not_lt fun hlt=>q fun c d hcd hp=>?_
   exact root_mono (show i≤κ-1 by omega) (a3 c d (root_mono h.le hcd) hp)⟩
theorem peel_next {w1 wr w6:World} {wb mb p:Nat} {R R' R2:ArR} {S S' S2:ArS} {A A' A2:Nat→Abs} {t:Nat} {P:Int→Int→Bool} {k n:Nat} {r x:Int} {L:List Thing} {bad2:Int} {K:List Int} {m:Int→Int} {V:Nat→Int} (h:PeelL w1 wb mb p R S A t P k (n+1) r L S' A' R' 0 K m wr)
 (hv:∀i,i<4→Has S' A' t (V i) (T2 P n i (3-i))) (hf:Fits P (n+1) n) (hm:Made t (nodes (.node (T2 P n 0 3) (T2 P n 1 2) (T2 P n 2 1) (T2 P n 3 0))) S' A' 0 S2 A2 bad2) (hh:bad2=0→Has S2 A2 t x (.node (T2 P n 0 3) (T2 P n 1 2) (T2 P n 2 1) (T2 P n 3 0)))
 (hd:Hd w6 wb WT [.map (some mb)] p R2 S2 A2 t bad2) (hst:StepH (fun b=>b=wb) p R' R2 wr.drew w6):
 PeelL w1 wb mb p R S A t P k n x (L++ [.sq (T2 P n 0 3) (T2 P n 1 2) (T2 P n 2 1) (T2 P n 3 0)]) S2 A2 R2 bad2 K m w6:=by
 have hst':StepH (fun b=>b=wb) p R' R2 wr w6:=(StepH.refl (fun b=>b=wb) p R' wr).drew.trans hst
 have hm1:Made t [.sq (T2 P n 0 3) (T2 P n 1 2) (T2 P n 2 1) (T2 P n 3 0)] S' A' 0 S2 A2 bad2:=hm.shrink h.wk.hd.rel h.wk.hd.ht (fun y hy=>by rw [List.mem_singleton.1 hy];exact mem_nodes.2 (.inl rfl)) fun y hy=>by
  rcases mem_nodes.1 hy with q | q | q | q | q
  ·exact .inl (List.mem_singleton.2 q)
  ·exact .inr (h.wk.hd.rel.nodes_has h.wk.hd.ht (hv 0 (by decide)).2 y q)
  ·exact .inr (h.wk.hd.rel.nodes_has h.wk.hd.ht (hv 1 (by decide)).2 y q)
  ·exact .inr (h.wk.hd.rel.nodes_has h.wk.hd.ht (hv 2 (by decide)).2 y q)
  ·exact .inr (h.wk.hd.rel.nodes_has h.wk.hd.ht (hv 3 (by decide)).2 y q)
 have hle:=h.le
 have hln:=h.len
 have hfn:Fits P k n:=(h.has rfl).2.trans hf
 refine ⟨by omega,by rw [List.length_append,List.length_singleton];omega,fun y hy=>?_,fun i h1 h2=>?_,h.made.trans hm1,fun e=>⟨by rw [T2_inner];exact hh e,(h.has rfl).2.trans hf⟩,h.wk.hand hd hst' hm.st,h.st.trans (hst'.wide fun b _ e=> .inl e)⟩
 ·rcases List.mem_append.1 hy with q | q
  ·obtain ⟨i,a1,a2,a3,a4⟩:=h.mem y q
   exact ⟨i,by omega,a2,a3,a4⟩
  ·rw [List.mem_singleton.1 q]
   exact ⟨n,Nat.le_refl _,by omega,hfn,by rw [T2_inner];rfl⟩
 ·by_cases e:i=n
  ·subst e
   refine List.mem_append_right _ (List.mem_singleton.2 ?_)
   rw [T2_inner];rfl
  ·exact List.mem_append_left _ (h.all i (by omega) h2)
set_option maxRecDepth 100000 in
set_option maxHeartbeats 6400000 in
theorem peel_any (w:World) (p:Nat) (R:ArR) (S:ArS) (A:Nat→Abs) (h:Ar w p R S A) (t:Nat) (ht:t<64) (P:Int→Int→Bool) (k:Nat) (h1:1≤k) (hk:k≤43) (root:Int) (hr:Has S A t root (rootT P k)):
 Calls Tryz.prog 161 #[.pointer (some ⟨p,0,none⟩),.int .i64 t,.int .i64 root] w (PeelPost w p R S A t P k):=by
 have HK43:=Lib.hid hk
 have HR:=Lib.hid hr
 have HW:=Lib.hid (walk_any w p R S A h t ht)
 clear h hr hk ht
 go_enter Tryz.func161,Tryz.ntmps161
 go_wp2_with fail
 (with_reducible refine HW.out.mono ?_)
 rintro e w1 ⟨wb,mb,rfl,hw1,hb1,hl1,hl2⟩
 have HW1:=Lib.hid hw1
 have HB1:=Lib.hid hb1
 have HL1:=Lib.hid hl1
 have HL2:=Lib.hid hl2
 have HV:=Lib.hid (hlevel_any w1 wb WT [.map (some mb)] p R S A t 0 hw1.hd root (rootT P k) (fun _=>HR.out))
 clear hw1 hb1 hl1 hl2 HW
 go_wp2_with fail
 (with_reducible refine HV.out.mono ?_)
 rintro e w2 ⟨lv,rfl,hlv,hd2,hs2⟩
 have hlv2:=hlv rfl
 rw [rootT_lvl] at hlv2
 subst hlv2
 have HW2:=Lib.hid (HW1.out.hand hd2 hs2 (St.refl HW1.out.hd.rel t))
 have HS2:Hid (StepH (WX wb mb) p R R w1 w2):=hs2.wide fun b _ e=> .inl e
 have c2:=HW2.out.hd.c2
 have HST:Hid (PeelL w1 wb mb p R S A t P k k root [] S A R 0 [] (fun _=>0) w2):=⟨Nat.le_refl _,by simp,(fun x hx=>by cases hx),(fun i h1 h2=>absurd h2 (Nat.not_lt.2 h1)),Made.refl HW1.out.hd.rel t 0,fun _=>⟨HR.out,Fits.refl P k⟩,HW2.out,HS2.out⟩
 have hk1:¬((k:Int)+1<2):=by omega
 clear hlv hd2 hs2 HV
 go_wp2_with fail
 clear c2
 go_loopw [9,2] (fun lv rt wx=>∃(κ:Nat) (L:List Thing) (r:Int) (S':ArS) (A':Nat→Abs) (R':ArR) (bad':Int) (K:List Int) (m:Int→Int),lv= .int .i64 ((κ:Int)+1)∧1≤κ∧rt= .int .i64 r∧PeelL w1 wb mb p R S A t P k κ r L S' A' R' bad' K m wx) (fun lv _ _=>(intOf lv).toNat)
 case atStart=>exact ⟨k,[],root,S,A,R,0,[],_,rfl,h1,rfl,HST.out⟩
 case round=>
  obtain ⟨κ,L,r,S',A',R',bad',K,m,rfl,hκ,rfl,hL⟩:=hrel
  have HLL:=Lib.hid hL
  clear hL
  by_cases hκ1:κ=1
  ·subst hκ1
   have HD:=Lib.hid (fun id=>done_any wr wb bad' HLL.out.wk.hd.c2 id)
   go_wp2_with fail
   (with_reducible refine (HD.out r).mono ?_)
   rintro e w3 ⟨rfl,hb3⟩
   have HF:=Lib.hid (peel_end HLL.out (Nat.le_refl _) (fun _=> .inl rfl) HB1.out HL1.out HL2.out hb3)
   clear hb3 HD
   generalize (if bad'=0 then r else 0)=rr at HF ⊢
   go_wp2_with fail
   go_returns
   exact HF.out
  ·obtain ⟨n,rfl⟩:∃n,κ=n+1:=⟨κ-1,by omega⟩
   have hn1:1≤n:=by omega
   have HN1:=Lib.hid hn1
   have hgt:(2:Int)<(n:Int)+1+1:=by omega
   have HKD:=Lib.hid (hkids_any wr wb WT [.map (some mb)] p R' S' A' t bad' HLL.out.wk.hd r (subT P (n+1) (-2^(n+1)) (-2^(n+1)) 0) (subT P (n+1) (-2^(n+1)) (-2^(n+1)) 1) (subT P (n+1) (-2^(n+1)) (-2^(n+1)) 2) (subT P (n+1) (-2^(n+1)) (-2^(n+1)) 3) (fun e=>by rw [←subT_all];exact (HLL.out.has e).1))
   rw [show ((n+1:Nat):Int)=(n:Int)+1 by omega]
   clear hκ1 hκ
   go_wp2_with fail
   (with_reducible refine HKD.out.mono ?_)
   rintro e w3 ⟨k0,k1,k2,k3,rfl,hkh,hkz,hd3,hs3⟩
   obtain ⟨Q,rfl,rfl,rfl,rfl⟩:=four_fn k0 k1 k2 k3
   have HW3:=Lib.hid (HLL.out.wk.hand hd3 hs3 (St.refl HLL.out.wk.hd.rel t))
   have HS3:Hid (StepH (WX wb mb) p R R' w1 w3):=HLL.out.st.trans (hs3.wide fun b _ e=> .inl e)
   have HQ:Hid (bad'=0→∀j,j<4→Has S' A' t (Q j) (.node (T2 P n j 0) (T2 P n j 1) (T2 P n j 2) (T2 P n j 3))):=fun e j hj=>by
    obtain ⟨g0,g1,g2,g3⟩:=hkh e
    rw [←T2_kid]
    rcases four_cases hj with rfl | rfl | rfl | rfl<;>assumption
   have HPS:=Lib.hid (peel_start (P:=P) (n:=n) (Q:=Q) HW3.out)
   clear hkh hkz hd3 hs3 HKD
   go_wp2_with fail
   have HS5:Hid (StepH (WX wb mb) p R R' w1 ((w3.alloc (.cells #[.int .i64 (Q 0),.int .i64 (Q 1),.int .i64 (Q 2),.int .i64 (Q 3)] 22)).alloc (.cells #[.int .i64 0,.int .i64 0,.int .i64 0,.int .i64 0] 22))):=(HS3.out.alloc _).alloc _
   have HPN:Hid (w1.heap.size≤w3.heap.size+1):=Nat.le_succ_of_le HS3.out.mod.size
   have HPB:=Lib.hid HPS.out.2
   have HPS:=Lib.hid HPS.out.1
   generalize World.alloc (World.alloc w3 _) _=w5 at HPS HPB HS5 ⊢
   generalize w3.heap.size+1=pb at HPS HPB HPN ⊢
   generalize w3.heap.size=qb at HPS HPB ⊢
   obtain ⟨wo,hwo⟩:∃wo:World,wo=wr:=⟨_,rfl⟩
   have HWO:=Lib.hid hwo
   clear hwo
   go_loopw [46,12] (fun kv fv wx=>∃(k:Nat) (V:Nat→Int) (K2:List Int) (m2:Int→Int),kv= .int .i64 k∧k≤4∧fv= .bool (fitB (UT P n bad') k)∧PeelI w5 wb mb qb pb p R' S' A' t bad' P n Q k V K2 m2 wx) (fun kv _ _=>4-(intOf kv).toNat)
   case atStart=>exact ⟨0,_,_,_,rfl,Nat.zero_le _,rfl,HPS.out⟩
   case round=>
    obtain ⟨i,V,K2,m2,rfl,hk,rfl,hP⟩:=hrel
    have HP:=Lib.hid hP
    clear hP
    by_cases hk4:i<4
    ·have c0:=HP.out.q.cellS (QC_get Q hk4)
     have HKC:=Lib.hid (fun W (hW:Hd W wb WT [.map (some mb)] p R' S' A' t bad')=>hkids_any W wb WT [.map (some mb)] p R' S' A' t bad' hW (Q i) (T2 P n i 0) (T2 P n i 1) (T2 P n i 2) (T2 P n i 3) (fun e=>HQ.out e i hk4))
     have HQL:=Lib.hid HP.out.q.lt
     have HQL2:Hid ((⟨qb,0,none⟩:Addr).block<(wr.alloc (.cells #[.int .i64 0,.int .i64 0,.int .i64 0,.int .i64 0] 22)).drew.heap.size):=(HP.out.q.alloc _).lt
     have HQN:Hid (¬(Own p R' qb∨qb=wb)):=fun ho=>by
      rcases ho with ho | ho
      ·exact HPB.out.nq ho
      ·exact HPB.out.q1 ho
     have HZN:Hid (¬(Own p R' wr.heap.size∨wr.heap.size=wb)):=fun ho=>by
      rcases ho with ho | ho
      ·exact Nat.lt_irrefl _ (HP.out.wk.hd.arm.own_lt ho)
      ·have:=HP.out.wk.hd.blk.lt;omega
     have HNE:Hid (qb≠wr.heap.size):=Nat.ne_of_lt HP.out.q.lt
     have HFS:=Lib.hid (fitB_succ (UT P n bad') i)
     have HK4:=Lib.hid hk4
     generalize hF:fitB (UT P n bad') i=F at HFS
     have HF:=Lib.hid hF
     clear hk hF
     rcases four_cases hk4 with rfl | rfl | rfl | rfl
     all_goals clear hk4
     ·go_wp2_with fail
      go_region_held3 (fun w'=>w'.cell? ⟨qb,0,none⟩=some (.int .i64 (Q 0)))
       (first | (with_reducible exact c0) | (with_reducible exact e0) | (with_reducible exact keep_one HNE.out e0 _ _ _ _) | go_keep)
       (first
         | (go_at_call 154;refine (HKC.out _ (by exact HP.out.wk.hd.drew)).mono ?_;rintro e w6 ⟨i0,i1,i2,i3,rfl,hih,hiz,hd6,hs6⟩;obtain ⟨r,rfl,rfl,rfl,rfl⟩:=four_fn i0 i1 i2 i3;have HKI:=Lib.hid (kin_a (r:=r) hd6 hs6);have e0:=(hs6.mod.cell (a:=⟨qb,0,none⟩) HQL.out HQN.out).trans c0)
         | (go_at_call 154;refine (HKC.out _ (by exact (HP.out.wk.hd.alloc _).drew)).mono ?_;rintro e w6 ⟨i0,i1,i2,i3,rfl,hih,hiz,hd6,hs6⟩;obtain ⟨r,rfl,rfl,rfl,rfl⟩:=four_fn i0 i1 i2 i3;have HKI:=Lib.hid (kin_b (r:=r) HP.out.wk.hd hd6 hs6);have e0:=(hs6.mod.cell (a:=⟨qb,0,none⟩) HQL2.out HQN.out).trans ((World.cell?_alloc_lt wr (.cells #[.int .i64 0,.int .i64 0,.int .i64 0,.int .i64 0] 22) ⟨qb,0,none⟩ HQL.out).trans c0);have HZ:=Lib.hid ((Blk.new wr 22 #[.int .i64 0,.int .i64 0,.int .i64 0,.int .i64 0]).drew.mod hs6.mod HZN.out);have z0:=HZ.out.cellS (i:=0) rfl;have z1:=HZ.out.cellS (i:=1) rfl;have z2:=HZ.out.cellS (i:=2) rfl;have z3:=HZ.out.cellS (i:=3) rfl;have f0:=HZ.out.frozen 0;have f1:=HZ.out.frozen 1;have f2:=HZ.out.frozen 2;have f3:=HZ.out.frozen 3))
      all_goals clear c0 e0
      all_goals have HIH:Hid ((bad'=0→∀j,j<4→Has S' A' t (r j) (T2 P n 0 j))∧(bad'≠0→∀j,j<4→r j=0)):=⟨fun e j hj=>(by obtain ⟨g0,g1,g2,g3⟩:=hih e;rcases four_cases hj with rfl | rfl | rfl | rfl<;>assumption),fun e j hj=>(by obtain ⟨g0,g1,g2,g3⟩:=hiz e;rcases four_cases hj with rfl | rfl | rfl | rfl<;>assumption)⟩
      all_goals clear hih hiz hd6 hs6
      all_goals (first
       | (clear z0 z1 z2 z3 f0 f1 f2 f3 HZ
          generalize World.setCell _ _ _=w7 at HKI ⊢
          generalize wr.heap.size=rb at HKI ⊢)
       | (generalize World.alloc w6 _=w7 at HKI ⊢
          generalize w6.heap.size=rb at HKI ⊢))
      all_goals (
       have HP7:=Lib.hid (HP.out.kids HPB.out HKI.out)
       have HRB:=Lib.hid (peel_rb HP.out HKI.out.lo)
       have r3:=HKI.out.r.cellS (QC_get r (k:=3) (by decide))
       have v0:=HP7.out.v.cellS (QC_get V (k:=0) (by decide))
       have g0:=HP7.out.v.frozen 0
       have HP8:=Lib.hid (HP7.out.set HPB.out (k:=0) (by decide) (x:=r 3) (fun e=>HIH.out.1 e 3 (by decide)))
       have HR8:Hid (Blk (w7.setCell ⟨pb,0,none⟩ (.int .i64 (r 3))) rb 22 (QC r)):=HKI.out.r.far (p:=⟨pb,0,none⟩) HRB.out.1 _
       clear HKI HP7
       go_wp2_with fail
       clear r3 v0 g0
       generalize World.setCell _ _ _=w8 at HP8 HR8 ⊢
       go_loopw [62,12] (fun jv fv wx=>∃(j:Nat) (K3:List Int) (m3:Int→Int),jv= .int .i64 j∧j≤4∧fv= .bool (F&&outerB (UT P n bad') 0 j)∧PeelI w5 wb mb qb pb p R' S' A' t bad' P n Q (0+1) (upd V 0 (r 3)) K3 m3 wx∧Blk wx rb 22 (QC r)) (fun jv _ _=>4-(intOf jv).toNat)
       case atStart=>exact ⟨0,_,_,rfl,Nat.zero_le _,by simp [outerB],HP8.out,HR8.out⟩
       case round=>
        obtain ⟨j,K3,m3,rfl,hj,rfl,hPj,hRj⟩:=hrel
        have HPJ:=Lib.hid hPj
        have HRJ:=Lib.hid hRj
        clear hPj hRj
        by_cases hj4:j<4
        ·have r0:=HRJ.out.cellS (QC_get r hj4)
         have HOS:=Lib.hid (outerB_succ (UT P n bad') 0 j)
         have HJ4:=Lib.hid hj4
         have hlt:(j:Int)<4:=by omega
         have hwi:=wrap_nat' j (by unfold maxLen;omega)
         have HE:=Lib.hid (wempty_gen (U:=UT P n bad' 0 j) HPJ.out.wk (fun e=>by unfold UT;rw [if_pos e];exact HIH.out.1 e j hj4) (fun e=>⟨HIH.out.2 e j hj4,by unfold UT;rw [if_neg e]⟩))
         generalize hG:(F&&outerB (UT P n bad') 0 j)=G
         have HG:=Lib.hid hG
         clear hj4 hj hG
         cases G
         ·have HN:Hid ((F&&outerB (UT P n bad') 0 (j+1))=false):=by show (F&&outerB (UT P n bad') 0 (j+1))=false;rw [HOS.out,←Bool.and_assoc,HG.out];rfl
          clear HE
          go_wp2_with fail
          go_roundw
          case rel=>exact ⟨j+1,K3,m3,by go_num,HJ4.out,by rw [HN.out],HPJ.out,HRJ.out⟩
          case measure=>simp [intOf];have:=HJ4.out;omega
         ·by_cases hjk:j=3
          ·have HN:Hid ((F&&outerB (UT P n bad') 0 (j+1))=true):=by show (F&&outerB (UT P n bad') 0 (j+1))=true;rw [HOS.out,←Bool.and_assoc,HG.out];simp [hjk]
           have hbb:((j:Int)==3)=true:=by rw [beq_iff_eq];omega
           clear HE hjk
           go_wp2_with fail
           go_roundw
           case rel=>exact ⟨j+1,K3,m3,by go_num,HJ4.out,by rw [HN.out],HPJ.out,HRJ.out⟩
           case measure=>simp [intOf];have:=HJ4.out;omega
          ·have HN:Hid ((F&&outerB (UT P n bad') 0 (j+1))=blankT (UT P n bad' 0 j)):=by show (F&&outerB (UT P n bad') 0 (j+1))=_;rw [HOS.out,←Bool.and_assoc,HG.out];simp [hjk]
           have hbb:((j:Int)==3)=false:=by rw [beq_eq_false_iff_ne];omega
           clear hjk
           go_wp2_with fail
           (with_reducible refine HE.out.mono ?_)
           rintro e w9 ⟨K4,m4,rfl,hw9,hs9⟩
           have HP9:=Lib.hid (HPJ.out.walk HPB.out hw9 hs9)
           have HR9:Hid (Blk w9 rb 22 (QC r)):=HRJ.out.mod hs9.mod (fun ho=>by
            rcases ho with ho | ho | ho
            ·exact HRB.out.2.2.2 ho
            ·exact HRB.out.2.1 ho
            ·exact HRB.out.2.2.1 ho)
           clear hw9 hs9 HE r0
           generalize blankT (UT P n bad' 0 j)=B at HN ⊢
           go_wp2_with fail
           go_roundw
           case rel=>exact ⟨j+1,K4,m4,by go_num,HJ4.out,by rw [HN.out],HP9.out,HR9.out⟩
           case measure=>simp [intOf];have:=HJ4.out;omega
        ·have hj5:j=4:=by omega
         subst hj5
         rw [←HFS.out]
         clear hj4 hj
         go_wp2_with fail
         go_roundw
         case rel=>exact ⟨0+1,_,K3,m3,by go_num,by decide,rfl,HPJ.out⟩
         case measure=>simp [intOf])
     ·go_wp2_with fail
      go_region_held3 (fun w'=>w'.cell? ⟨qb,1,none⟩=some (.int .i64 (Q 1)))
       (first | (with_reducible exact c0) | (with_reducible exact e0) | (with_reducible exact keep_one HNE.out e0 _ _ _ _) | go_keep)
       (first
         | (go_at_call 154;refine (HKC.out _ (by exact HP.out.wk.hd.drew)).mono ?_;rintro e w6 ⟨i0,i1,i2,i3,rfl,hih,hiz,hd6,hs6⟩;obtain ⟨r,rfl,rfl,rfl,rfl⟩:=four_fn i0 i1 i2 i3;have HKI:=Lib.hid (kin_a (r:=r) hd6 hs6);have e0:=(hs6.mod.cell (a:=⟨qb,1,none⟩) HQL.out HQN.out).trans c0)
         | (go_at_call 154;refine (HKC.out _ (by exact (HP.out.wk.hd.alloc _).drew)).mono ?_;rintro e w6 ⟨i0,i1,i2,i3,rfl,hih,hiz,hd6,hs6⟩;obtain ⟨r,rfl,rfl,rfl,rfl⟩:=four_fn i0 i1 i2 i3;have HKI:=Lib.hid (kin_b (r:=r) HP.out.wk.hd hd6 hs6);have e0:=(hs6.mod.cell (a:=⟨qb,1,none⟩) HQL2.out HQN.out).trans ((World.cell?_alloc_lt wr (.cells #[.int .i64 0,.int .i64 0,.int .i64 0,.int .i64 0] 22) ⟨qb,1,none⟩ HQL.out).trans c0);have HZ:=Lib.hid ((Blk.new wr 22 #[.int .i64 0,.int .i64 0,.int .i64 0,.int .i64 0]).drew.mod hs6.mod HZN.out);have z0:=HZ.out.cellS (i:=0) rfl;have z1:=HZ.out.cellS (i:=1) rfl;have z2:=HZ.out.cellS (i:=2) rfl;have z3:=HZ.out.cellS (i:=3) rfl;have f0:=HZ.out.frozen 0;have f1:=HZ.out.frozen 1;have f2:=HZ.out.frozen 2;have f3:=HZ.out.frozen 3))
      all_goals clear c0 e0
      all_goals have HIH:Hid ((bad'=0→∀j,j<4→Has S' A' t (r j) (T2 P n 1 j))∧(bad'≠0→∀j,j<4→r j=0)):=⟨fun e j hj=>(by obtain ⟨g0,g1,g2,g3⟩:=hih e;rcases four_cases hj with rfl | rfl | rfl | rfl<;>assumption),fun e j hj=>(by obtain ⟨g0,g1,g2,g3⟩:=hiz e;rcases four_cases hj with rfl | rfl | rfl | rfl<;>assumption)⟩
      all_goals clear hih hiz hd6 hs6
      all_goals (first
       | (clear z0 z1 z2 z3 f0 f1 f2 f3 HZ
          generalize World.setCell _ _ _=w7 at HKI ⊢
          generalize wr.heap.size=rb at HKI ⊢)
       | (generalize World.alloc w6 _=w7 at HKI ⊢
          generalize w6.heap.size=rb at HKI ⊢))
      all_goals (
       have HP7:=Lib.hid (HP.out.kids HPB.out HKI.out)
       have HRB:=Lib.hid (peel_rb HP.out HKI.out.lo)
       have r3:=HKI.out.r.cellS (QC_get r (k:=2) (by decide))
       have v0:=HP7.out.v.cellS (QC_get V (k:=1) (by decide))
       have g0:=HP7.out.v.frozen 1
       have HP8:=Lib.hid (HP7.out.set HPB.out (k:=1) (by decide) (x:=r 2) (fun e=>HIH.out.1 e 2 (by decide)))
       have HR8:Hid (Blk (w7.setCell ⟨pb,1,none⟩ (.int .i64 (r 2))) rb 22 (QC r)):=HKI.out.r.far (p:=⟨pb,1,none⟩) HRB.out.1 _
       clear HKI HP7
       go_wp2_with fail
       clear r3 v0 g0
       generalize World.setCell _ _ _=w8 at HP8 HR8 ⊢
       go_loopw [62,12] (fun jv fv wx=>∃(j:Nat) (K3:List Int) (m3:Int→Int),jv= .int .i64 j∧j≤4∧fv= .bool (F&&outerB (UT P n bad') 1 j)∧PeelI w5 wb mb qb pb p R' S' A' t bad' P n Q (1+1) (upd V 1 (r 2)) K3 m3 wx∧Blk wx rb 22 (QC r)) (fun jv _ _=>4-(intOf jv).toNat)
       case atStart=>exact ⟨0,_,_,rfl,Nat.zero_le _,by simp [outerB],HP8.out,HR8.out⟩
       case round=>
        obtain ⟨j,K3,m3,rfl,hj,rfl,hPj,hRj⟩:=hrel
        have HPJ:=Lib.hid hPj
        have HRJ:=Lib.hid hRj
        clear hPj hRj
        by_cases hj4:j<4
        ·have r0:=HRJ.out.cellS (QC_get r hj4)
         have HOS:=Lib.hid (outerB_succ (UT P n bad') 1 j)
         have HJ4:=Lib.hid hj4
         have hlt:(j:Int)<4:=by omega
         have hwi:=wrap_nat' j (by unfold maxLen;omega)
         have HE:=Lib.hid (wempty_gen (U:=UT P n bad' 1 j) HPJ.out.wk (fun e=>by unfold UT;rw [if_pos e];exact HIH.out.1 e j hj4) (fun e=>⟨HIH.out.2 e j hj4,by unfold UT;rw [if_neg e]⟩))
         generalize hG:(F&&outerB (UT P n bad') 1 j)=G
         have HG:=Lib.hid hG
         clear hj4 hj hG
         cases G
         ·have HN:Hid ((F&&outerB (UT P n bad') 1 (j+1))=false):=by show (F&&outerB (UT P n bad') 1 (j+1))=false;rw [HOS.out,←Bool.and_assoc,HG.out];rfl
          clear HE
          go_wp2_with fail
          go_roundw
          case rel=>exact ⟨j+1,K3,m3,by go_num,HJ4.out,by rw [HN.out],HPJ.out,HRJ.out⟩
          case measure=>simp [intOf];have:=HJ4.out;omega
         ·by_cases hjk:j=2
          ·have HN:Hid ((F&&outerB (UT P n bad') 1 (j+1))=true):=by show (F&&outerB (UT P n bad') 1 (j+1))=true;rw [HOS.out,←Bool.and_assoc,HG.out];simp [hjk]
           have hbb:((j:Int)==2)=true:=by rw [beq_iff_eq];omega
           clear HE hjk
           go_wp2_with fail
           go_roundw
           case rel=>exact ⟨j+1,K3,m3,by go_num,HJ4.out,by rw [HN.out],HPJ.out,HRJ.out⟩
           case measure=>simp [intOf];have:=HJ4.out;omega
          ·have HN:Hid ((F&&outerB (UT P n bad') 1 (j+1))=blankT (UT P n bad' 1 j)):=by show (F&&outerB (UT P n bad') 1 (j+1))=_;rw [HOS.out,←Bool.and_assoc,HG.out];simp [hjk]
           have hbb:((j:Int)==2)=false:=by rw [beq_eq_false_iff_ne];omega
           clear hjk
           go_wp2_with fail
           (with_reducible refine HE.out.mono ?_)
           rintro e w9 ⟨K4,m4,rfl,hw9,hs9⟩
           have HP9:=Lib.hid (HPJ.out.walk HPB.out hw9 hs9)
           have HR9:Hid (Blk w9 rb 22 (QC r)):=HRJ.out.mod hs9.mod (fun ho=>by
            rcases ho with ho | ho | ho
            ·exact HRB.out.2.2.2 ho
            ·exact HRB.out.2.1 ho
            ·exact HRB.out.2.2.1 ho)
           clear hw9 hs9 HE r0
           generalize blankT (UT P n bad' 1 j)=B at HN ⊢
           go_wp2_with fail
           go_roundw
           case rel=>exact ⟨j+1,K4,m4,by go_num,HJ4.out,by rw [HN.out],HP9.out,HR9.out⟩
           case measure=>simp [intOf];have:=HJ4.out;omega
        ·have hj5:j=4:=by omega
         subst hj5
         rw [←HFS.out]
         clear hj4 hj
         go_wp2_with fail
         go_roundw
         case rel=>exact ⟨1+1,_,K3,m3,by go_num,by decide,rfl,HPJ.out⟩
         case measure=>simp [intOf])
     ·go_wp2_with fail
      go_region_held3 (fun w'=>w'.cell? ⟨qb,2,none⟩=some (.int .i64 (Q 2)))
       (first | (with_reducible exact c0) | (with_reducible exact e0) | (with_reducible exact keep_one HNE.out e0 _ _ _ _) | go_keep)
       (first
         | (go_at_call 154;refine (HKC.out _ (by exact HP.out.wk.hd.drew)).mono ?_;rintro e w6 ⟨i0,i1,i2,i3,rfl,hih,hiz,hd6,hs6⟩;obtain ⟨r,rfl,rfl,rfl,rfl⟩:=four_fn i0 i1 i2 i3;have HKI:=Lib.hid (kin_a (r:=r) hd6 hs6);have e0:=(hs6.mod.cell (a:=⟨qb,2,none⟩) HQL.out HQN.out).trans c0)
         | (go_at_call 154;refine (HKC.out _ (by exact (HP.out.wk.hd.alloc _).drew)).mono ?_;rintro e w6 ⟨i0,i1,i2,i3,rfl,hih,hiz,hd6,hs6⟩;obtain ⟨r,rfl,rfl,rfl,rfl⟩:=four_fn i0 i1 i2 i3;have HKI:=Lib.hid (kin_b (r:=r) HP.out.wk.hd hd6 hs6);have e0:=(hs6.mod.cell (a:=⟨qb,2,none⟩) HQL2.out HQN.out).trans ((World.cell?_alloc_lt wr (.cells #[.int .i64 0,.int .i64 0,.int .i64 0,.int .i64 0] 22) ⟨qb,2,none⟩ HQL.out).trans c0);have HZ:=Lib.hid ((Blk.new wr 22 #[.int .i64 0,.int .i64 0,.int .i64 0,.int .i64 0]).drew.mod hs6.mod HZN.out);have z0:=HZ.out.cellS (i:=0) rfl;have z1:=HZ.out.cellS (i:=1) rfl;have z2:=HZ.out.cellS (i:=2) rfl;have z3:=HZ.out.cellS (i:=3) rfl;have f0:=HZ.out.frozen 0;have f1:=HZ.out.frozen 1;have f2:=HZ.out.frozen 2;have f3:=HZ.out.frozen 3))
      all_goals clear c0 e0
      all_goals have HIH:Hid ((bad'=0→∀j,j<4→Has S' A' t (r j) (T2 P n 2 j))∧(bad'≠0→∀j,j<4→r j=0)):=⟨fun e j hj=>(by obtain ⟨g0,g1,g2,g3⟩:=hih e;rcases four_cases hj with rfl | rfl | rfl | rfl<;>assumption),fun e j hj=>(by obtain ⟨g0,g1,g2,g3⟩:=hiz e;rcases four_cases hj with rfl | rfl | rfl | rfl<;>assumption)⟩
      all_goals clear hih hiz hd6 hs6
      all_goals (first
       | (clear z0 z1 z2 z3 f0 f1 f2 f3 HZ
          generalize World.setCell _ _ _=w7 at HKI ⊢
          generalize wr.heap.size=rb at HKI ⊢)
       | (generalize World.alloc w6 _=w7 at HKI ⊢
          generalize w6.heap.size=rb at HKI ⊢))
      all_goals (
       have HP7:=Lib.hid (HP.out.kids HPB.out HKI.out)
       have HRB:=Lib.hid (peel_rb HP.out HKI.out.lo)
       have r3:=HKI.out.r.cellS (QC_get r (k:=1) (by decide))
       have v0:=HP7.out.v.cellS (QC_get V (k:=2) (by decide))
       have g0:=HP7.out.v.frozen 2
       have HP8:=Lib.hid (HP7.out.set HPB.out (k:=2) (by decide) (x:=r 1) (fun e=>HIH.out.1 e 1 (by decide)))
       have HR8:Hid (Blk (w7.setCell ⟨pb,2,none⟩ (.int .i64 (r 1))) rb 22 (QC r)):=HKI.out.r.far (p:=⟨pb,2,none⟩) HRB.out.1 _
       clear HKI HP7
       go_wp2_with fail
       clear r3 v0 g0
       generalize World.setCell _ _ _=w8 at HP8 HR8 ⊢
       go_loopw [62,12] (fun jv fv wx=>∃(j:Nat) (K3:List Int) (m3:Int→Int),jv= .int .i64 j∧j≤4∧fv= .bool (F&&outerB (UT P n bad') 2 j)∧PeelI w5 wb mb qb pb p R' S' A' t bad' P n Q (2+1) (upd V 2 (r 1)) K3 m3 wx∧Blk wx rb 22 (QC r)) (fun jv _ _=>4-(intOf jv).toNat)
       case atStart=>exact ⟨0,_,_,rfl,Nat.zero_le _,by simp [outerB],HP8.out,HR8.out⟩
       case round=>
        obtain ⟨j,K3,m3,rfl,hj,rfl,hPj,hRj⟩:=hrel
        have HPJ:=Lib.hid hPj
        have HRJ:=Lib.hid hRj
        clear hPj hRj
        by_cases hj4:j<4
        ·have r0:=HRJ.out.cellS (QC_get r hj4)
         have HOS:=Lib.hid (outerB_succ (UT P n bad') 2 j)
         have HJ4:=Lib.hid hj4
         have hlt:(j:Int)<4:=by omega
         have hwi:=wrap_nat' j (by unfold maxLen;omega)
         have HE:=Lib.hid (wempty_gen (U:=UT P n bad' 2 j) HPJ.out.wk (fun e=>by unfold UT;rw [if_pos e];exact HIH.out.1 e j hj4) (fun e=>⟨HIH.out.2 e j hj4,by unfold UT;rw [if_neg e]⟩))
         generalize hG:(F&&outerB (UT P n bad') 2 j)=G
         have HG:=Lib.hid hG
         clear hj4 hj hG
         cases G
         ·have HN:Hid ((F&&outerB (UT P n bad') 2 (j+1))=false):=by show (F&&outerB (UT P n bad') 2 (j+1))=false;rw [HOS.out,←Bool.and_assoc,HG.out];rfl
          clear HE
          go_wp2_with fail
          go_roundw
          case rel=>exact ⟨j+1,K3,m3,by go_num,HJ4.out,by rw [HN.out],HPJ.out,HRJ.out⟩
          case measure=>simp [intOf];have:=HJ4.out;omega
         ·by_cases hjk:j=1
          ·have HN:Hid ((F&&outerB (UT P n bad') 2 (j+1))=true):=by show (F&&outerB (UT P n bad') 2 (j+1))=true;rw [HOS.out,←Bool.and_assoc,HG.out];simp [hjk]
           have hbb:((j:Int)==1)=true:=by rw [beq_iff_eq];omega
           clear HE hjk
           go_wp2_with fail
           go_roundw
           case rel=>exact ⟨j+1,K3,m3,by go_num,HJ4.out,by rw [HN.out],HPJ.out,HRJ.out⟩
           case measure=>simp [intOf];have:=HJ4.out;omega
          ·have HN:Hid ((F&&outerB (UT P n bad') 2 (j+1))=blankT (UT P n bad' 2 j)):=by show (F&&outerB (UT P n bad') 2 (j+1))=_;rw [HOS.out,←Bool.and_assoc,HG.out];simp [hjk]
           have hbb:((j:Int)==1)=false:=by rw [beq_eq_false_iff_ne];omega
           clear hjk
           go_wp2_with fail
           (with_reducible refine HE.out.mono ?_)
           rintro e w9 ⟨K4,m4,rfl,hw9,hs9⟩
           have HP9:=Lib.hid (HPJ.out.walk HPB.out hw9 hs9)
           have HR9:Hid (Blk w9 rb 22 (QC r)):=HRJ.out.mod hs9.mod (fun ho=>by
            rcases ho with ho | ho | ho
            ·exact HRB.out.2.2.2 ho
            ·exact HRB.out.2.1 ho
            ·exact HRB.out.2.2.1 ho)
           clear hw9 hs9 HE r0
           generalize blankT (UT P n bad' 2 j)=B at HN ⊢
           go_wp2_with fail
           go_roundw
           case rel=>exact ⟨j+1,K4,m4,by go_num,HJ4.out,by rw [HN.out],HP9.out,HR9.out⟩
           case measure=>simp [intOf];have:=HJ4.out;omega
        ·have hj5:j=4:=by omega
         subst hj5
         rw [←HFS.out]
         clear hj4 hj
         go_wp2_with fail
         go_roundw
         case rel=>exact ⟨2+1,_,K3,m3,by go_num,by decide,rfl,HPJ.out⟩
         case measure=>simp [intOf])
     ·go_wp2_with fail
      go_region_held3 (fun w'=>w'.cell? ⟨qb,3,none⟩=some (.int .i64 (Q 3)))
       (first | (with_reducible exact c0) | (with_reducible exact e0) | (with_reducible exact keep_one HNE.out e0 _ _ _ _) | go_keep)
       (first
         | (go_at_call 154;refine (HKC.out _ (by exact HP.out.wk.hd.drew)).mono ?_;rintro e w6 ⟨i0,i1,i2,i3,rfl,hih,hiz,hd6,hs6⟩;obtain ⟨r,rfl,rfl,rfl,rfl⟩:=four_fn i0 i1 i2 i3;have HKI:=Lib.hid (kin_a (r:=r) hd6 hs6);have e0:=(hs6.mod.cell (a:=⟨qb,3,none⟩) HQL.out HQN.out).trans c0)
         | (go_at_call 154;refine (HKC.out _ (by exact (HP.out.wk.hd.alloc _).drew)).mono ?_;rintro e w6 ⟨i0,i1,i2,i3,rfl,hih,hiz,hd6,hs6⟩;obtain ⟨r,rfl,rfl,rfl,rfl⟩:=four_fn i0 i1 i2 i3;have HKI:=Lib.hid (kin_b (r:=r) HP.out.wk.hd hd6 hs6);have e0:=(hs6.mod.cell (a:=⟨qb,3,none⟩) HQL2.out HQN.out).trans ((World.cell?_alloc_lt wr (.cells #[.int .i64 0,.int .i64 0,.int .i64 0,.int .i64 0] 22) ⟨qb,3,none⟩ HQL.out).trans c0);have HZ:=Lib.hid ((Blk.new wr 22 #[.int .i64 0,.int .i64 0,.int .i64 0,.int .i64 0]).drew.mod hs6.mod HZN.out);have z0:=HZ.out.cellS (i:=0) rfl;have z1:=HZ.out.cellS (i:=1) rfl;have z2:=HZ.out.cellS (i:=2) rfl;have z3:=HZ.out.cellS (i:=3) rfl;have f0:=HZ.out.frozen 0;have f1:=HZ.out.frozen 1;have f2:=HZ.out.frozen 2;have f3:=HZ.out.frozen 3))
      all_goals clear c0 e0
      all_goals have HIH:Hid ((bad'=0→∀j,j<4→Has S' A' t (r j) (T2 P n 3 j))∧(bad'≠0→∀j,j<4→r j=0)):=⟨fun e j hj=>(by obtain ⟨g0,g1,g2,g3⟩:=hih e;rcases four_cases hj with rfl | rfl | rfl | rfl<;>assumption),fun e j hj=>(by obtain ⟨g0,g1,g2,g3⟩:=hiz e;rcases four_cases hj with rfl | rfl | rfl | rfl<;>assumption)⟩
      all_goals clear hih hiz hd6 hs6
      all_goals (first
       | (clear z0 z1 z2 z3 f0 f1 f2 f3 HZ
          generalize World.setCell _ _ _=w7 at HKI ⊢
          generalize wr.heap.size=rb at HKI ⊢)
       | (generalize World.alloc w6 _=w7 at HKI ⊢
          generalize w6.heap.size=rb at HKI ⊢))
      all_goals (
       have HP7:=Lib.hid (HP.out.kids HPB.out HKI.out)
       have HRB:=Lib.hid (peel_rb HP.out HKI.out.lo)
       have r3:=HKI.out.r.cellS (QC_get r (k:=0) (by decide))
       have v0:=HP7.out.v.cellS (QC_get V (k:=3) (by decide))
       have g0:=HP7.out.v.frozen 3
       have HP8:=Lib.hid (HP7.out.set HPB.out (k:=3) (by decide) (x:=r 0) (fun e=>HIH.out.1 e 0 (by decide)))
       have HR8:Hid (Blk (w7.setCell ⟨pb,3,none⟩ (.int .i64 (r 0))) rb 22 (QC r)):=HKI.out.r.far (p:=⟨pb,3,none⟩) HRB.out.1 _
       clear HKI HP7
       go_wp2_with fail
       clear r3 v0 g0
       generalize World.setCell _ _ _=w8 at HP8 HR8 ⊢
       go_loopw [62,12] (fun jv fv wx=>∃(j:Nat) (K3:List Int) (m3:Int→Int),jv= .int .i64 j∧j≤4∧fv= .bool (F&&outerB (UT P n bad') 3 j)∧PeelI w5 wb mb qb pb p R' S' A' t bad' P n Q (3+1) (upd V 3 (r 0)) K3 m3 wx∧Blk wx rb 22 (QC r)) (fun jv _ _=>4-(intOf jv).toNat)
       case atStart=>exact ⟨0,_,_,rfl,Nat.zero_le _,by simp [outerB],HP8.out,HR8.out⟩
       case round=>
        obtain ⟨j,K3,m3,rfl,hj,rfl,hPj,hRj⟩:=hrel
        have HPJ:=Lib.hid hPj
        have HRJ:=Lib.hid hRj
        clear hPj hRj
        by_cases hj4:j<4
        ·have r0:=HRJ.out.cellS (QC_get r hj4)
         have HOS:=Lib.hid (outerB_succ (UT P n bad') 3 j)
         have HJ4:=Lib.hid hj4
         have hlt:(j:Int)<4:=by omega
         have hwi:=wrap_nat' j (by unfold maxLen;omega)
         have HE:=Lib.hid (wempty_gen (U:=UT P n bad' 3 j) HPJ.out.wk (fun e=>by unfold UT;rw [if_pos e];exact HIH.out.1 e j hj4) (fun e=>⟨HIH.out.2 e j hj4,by unfold UT;rw [if_neg e]⟩))
         generalize hG:(F&&outerB (UT P n bad') 3 j)=G
         have HG:=Lib.hid hG
         clear hj4 hj hG
         cases G
         ·have HN:Hid ((F&&outerB (UT P n bad') 3 (j+1))=false):=by show (F&&outerB (UT P n bad') 3 (j+1))=false;rw [HOS.out,←Bool.and_assoc,HG.out];rfl
          clear HE
          go_wp2_with fail
          go_roundw
          case rel=>exact ⟨j+1,K3,m3,by go_num,HJ4.out,by rw [HN.out],HPJ.out,HRJ.out⟩
          case measure=>simp [intOf];have:=HJ4.out;omega
         ·by_cases hjk:j=0
          ·have HN:Hid ((F&&outerB (UT P n bad') 3 (j+1))=true):=by show (F&&outerB (UT P n bad') 3 (j+1))=true;rw [HOS.out,←Bool.and_assoc,HG.out];simp [hjk]
           have hbb:((j:Int)==0)=true:=by rw [beq_iff_eq];omega
           clear HE hjk
           go_wp2_with fail
           go_roundw
           case rel=>exact ⟨j+1,K3,m3,by go_num,HJ4.out,by rw [HN.out],HPJ.out,HRJ.out⟩
           case measure=>simp [intOf];have:=HJ4.out;omega
          ·have HN:Hid ((F&&outerB (UT P n bad') 3 (j+1))=blankT (UT P n bad' 3 j)):=by show (F&&outerB (UT P n bad') 3 (j+1))=_;rw [HOS.out,←Bool.and_assoc,HG.out];simp [hjk]
           have hbb:((j:Int)==0)=false:=by rw [beq_eq_false_iff_ne];omega
           clear hjk
           go_wp2_with fail
           (with_reducible refine HE.out.mono ?_)
           rintro e w9 ⟨K4,m4,rfl,hw9,hs9⟩
           have HP9:=Lib.hid (HPJ.out.walk HPB.out hw9 hs9)
           have HR9:Hid (Blk w9 rb 22 (QC r)):=HRJ.out.mod hs9.mod (fun ho=>by
            rcases ho with ho | ho | ho
            ·exact HRB.out.2.2.2 ho
            ·exact HRB.out.2.1 ho
            ·exact HRB.out.2.2.1 ho)
           clear hw9 hs9 HE r0
           generalize blankT (UT P n bad' 3 j)=B at HN ⊢
           go_wp2_with fail
           go_roundw
           case rel=>exact ⟨j+1,K4,m4,by go_num,HJ4.out,by rw [HN.out],HP9.out,HR9.out⟩
           case measure=>simp [intOf];have:=HJ4.out;omega
        ·have hj5:j=4:=by omega
         subst hj5
         rw [←HFS.out]
         clear hj4 hj
         go_wp2_with fail
         go_roundw
         case rel=>exact ⟨3+1,_,K3,m3,by go_num,by decide,rfl,HPJ.out⟩
         case measure=>simp [intOf])
    ·have hk5:i=4:=by omega
     subst hk5
     have HPL:Hid (PeelL w1 wb mb p R S A t P k (n+1) r L S' A' R' bad' K2 m2 wr):=⟨HLL.out.le,HLL.out.len,HLL.out.mem,HLL.out.all,HLL.out.made,HLL.out.has,HP.out.wk,((HS5.out.wide fun b _ e=> .inl e).trans HP.out.st).wide fun b hb e=>by
      rcases e with e | e
      ·exact e
      ·have:=HPN.out;omega⟩
     have HD:=Lib.hid (fun id=>done_any wr wb bad' HP.out.wk.hd.c2 id)
     have c2:=HP.out.wk.hd.c2
     clear hk hk4
     generalize hF:fitB (UT P n bad') 4=F
     have HFF:=Lib.hid hF
     clear hF
     cases F
     ·have HNF:Hid (bad'=0→n+1=1∨¬Fits P (n+1) (n+1-1)):=fun e=> .inr fun q=>by
       have:=(UT_fits HFF.out e).2 q;cases this
      go_wp2_with fail
      (with_reducible refine (HD.out r).mono ?_)
      rintro e w6 ⟨rfl,hb6⟩
      have HF2:=Lib.hid (peel_end HPL.out (Nat.succ_le_succ (Nat.zero_le n)) HNF.out HB1.out HL1.out HL2.out hb6)
      clear hb6 HD
      generalize (if bad'=0 then r else 0)=rr at HF2 ⊢
      go_wp2_with fail
      go_returns
      exact HF2.out
     ·by_cases hb0:bad'=0
      ·subst hb0
       have HFT:=Lib.hid ((UT_fits HFF.out rfl).1 rfl)
       have HNI:=Lib.hid (HP.out.has rfl)
       have v0:=HP.out.v.cellS (QC_get V (k:=0) (by decide))
       have v1:=HP.out.v.cellS (QC_get V (k:=1) (by decide))
       have v2:=HP.out.v.cellS (QC_get V (k:=2) (by decide))
       have v3:=HP.out.v.cellS (QC_get V (k:=3) (by decide))
       have hj:=hjoin_any wr.drew wb WT [.map (some mb)] p R' S' A' t 0 HP.out.wk.hd.drew (V 0) (V 1) (V 2) (V 3) _ _ _ _ n (fun _=>⟨HNI.out 0 (by decide),HNI.out 1 (by decide),HNI.out 2 (by decide),HNI.out 3 (by decide)⟩) ⟨T2_lvl P n 0 3,T2_lvl P n 1 2,T2_lvl P n 2 1,T2_lvl P n 3 0⟩ (by have:=HLL.out.le;have:=HK43.out;omega)
       have HJ:=Lib.hid hj
       have HPX:Hid (¬(Own p R' pb∨pb=wb)):=fun ho=>by
        rcases ho with ho | ho
        ·exact HPB.out.np ho
        ·exact HPB.out.p1 ho
       clear hj HD
       go_wp2_with fail
       go_region_held3 (fun w'=>w'.cell? ⟨pb,0,none⟩=some (.int .i64 (V 0))∧w'.cell? ⟨pb,1,none⟩=some (.int .i64 (V 1))∧w'.cell? ⟨pb,2,none⟩=some (.int .i64 (V 2))∧w'.cell? ⟨pb,3,none⟩=some (.int .i64 (V 3)))
        (first | (with_reducible exact ⟨v0,v1,v2,v3⟩) | (with_reducible exact ⟨e0,e1,e2,e3⟩) | go_keep)
        ((go_at_call 151;refine HJ.out.mono ?_;rintro e w6 ⟨x,S2,A2,R2,bad2,rfl,hm,hh,hd,hst⟩;have hbp:=fun j=>hst.mod.cell (a:=⟨pb,j,none⟩) HP.out.v.lt HPX.out;have e0:=(hbp 0).trans v0;have e1:=(hbp 1).trans v1;have e2:=(hbp 2).trans v2;have e3:=(hbp 3).trans v3;clear hbp))
       have HNX:Hid (PeelL w1 wb mb p R S A t P k n x (L++ [.sq (T2 P n 0 3) (T2 P n 1 2) (T2 P n 2 1) (T2 P n 3 0)]) S2 A2 R2 bad2 K2 m2 w6):=peel_next HPL.out HNI.out HFT.out hm hh hd hst
       clear v0 v1 v2 v3 e0 e1 e2 e3 hm hh hd hst HJ c2
       have hnb:(n:Int)≤43:=by have:=HLL.out.le;have:=HK43.out;omega
       go_wp2_with fail
       go_roundw
       case rel=>exact ⟨n,_,x,S2,A2,R2,bad2,K2,m2,rfl,HN1.out,rfl,HNX.out⟩
       case measure=>simp [intOf];omega
      ·have hbb:(bad'==0)=false:=beq_eq_false_iff_ne.2 hb0
       have HNF:Hid (bad'=0→n+1=1∨¬Fits P (n+1) (n+1-1)):=fun e=>absurd e hb0
       clear hb0
       go_wp2_with fail
       (with_reducible refine (HD.out r).mono ?_)
       rintro e w6 ⟨rfl,hb6⟩
       have HF2:=Lib.hid (peel_end HPL.out (Nat.succ_le_succ (Nat.zero_le n)) HNF.out HB1.out HL1.out HL2.out hb6)
       clear hb6 HD
       generalize (if bad'=0 then r else 0)=rr at HF2 ⊢
       go_wp2_with fail
       go_returns
       exact HF2.out
end Go.Proofs.YthohnjgnpapnoaaGreatDoor
