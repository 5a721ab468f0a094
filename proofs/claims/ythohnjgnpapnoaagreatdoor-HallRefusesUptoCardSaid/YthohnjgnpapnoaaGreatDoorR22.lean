/- quad: how far the first live row or column lies from a side of a square, in plain words. No program is named here. · quad: what edge keeps: its map, its own cells. · quad: edge, its closure. -/
import Derived.Test.YthohnjgnpapnoaaGreatDoorR17
import Derived.Test.YthohnjgnpapnoaaGreatDoorR10
import Derived.Deep.RegionLaw
import Derived.Deep.CutBlock
import Derived.Deep.DeepCutAuto
set_option linter.unusedVariables false
set_option linter.unusedSimpArgs false
namespace Go.Proofs.YthohnjgnpapnoaaGreatDoor
open Go.RowKit
def nearK (s j:Nat):Nat:=if s=0 then j else if s=1 then 2+j else if s=2 then 2*j else 1+2*j
def farK (s j:Nat):Nat:=if s=0 then 2+j else if s=1 then j else if s=2 then 1+2*j else 2*j
def lookS (v:Tree→Int) (add:Int) (st:Int×Bool) (T:Tree):Int×Bool:=
 if blankT T then st else if !st.2 || decide (add+v T<st.1) then (add+v T,true) else st
def edgeT (s:Nat):Nat→Tree→Int
 | 0,_=>0
 | n+1,T=>
   let a:=lookS (edgeT s n) 0 (lookS (edgeT s n) 0 (0,false) (T.kid (nearK s 0))) (T.kid (nearK s 1))
   if a.2 then a.1 else (lookS (edgeT s n) (2^n) (lookS (edgeT s n) (2^n) a (T.kid (farK s 0))) (T.kid (farK s 1))).1
def farC (s n:Nat) (x y a c:Int):Int:=if s=0 then c-y else if s=1 then y+2^n-1-c else if s=2 then a-x else x+2^n-1-a
theorem farC_bd {s n:Nat} {x y a c:Int} (h:inB n x y a c):0≤farC s n x y a c∧farC s n x y a c<2^n:=by
 unfold inB at h
 unfold farC
 split
 ·omega
 ·split
  ·omega
  ·split<;>omega
def kx (n:Nat) (x:Int) (k:Nat):Int:=if k%2=1 then x+2^n else x
def ky (n:Nat) (y:Int) (k:Nat):Int:=if k/2=1 then y+2^n else y
theorem kid_tree (P:Int→Int→Bool) (n:Nat) (x y:Int) {k:Nat} (hk:k<4):(treeOf P (n+1) x y).kid k=treeOf P n (kx n x k) (ky n y k):=by
 rcases (by omega:k=0∨k=1∨k=2∨k=3) with rfl | rfl | rfl | rfl<;>rfl
theorem farC_near {s n j:Nat} (hs:s<4) (hj:j<2) (x y a c:Int):farC s (n+1) x y a c=farC s n (kx n x (nearK s j)) (ky n y (nearK s j)) a c:=by
 have hp:(2:Int)^(n+1)=2^n*2:=Int.pow_succ 2 n
 rcases (by omega:s=0∨s=1∨s=2∨s=3) with rfl | rfl | rfl | rfl<;>rcases (by omega:j=0∨j=1) with rfl | rfl<;>simp [farC,kx,ky,nearK,hp]<;>omega
theorem farC_far {s n j:Nat} (hs:s<4) (hj:j<2) (x y a c:Int):farC s (n+1) x y a c=2^n+farC s n (kx n x (farK s j)) (ky n y (farK s j)) a c:=by
 have hp:(2:Int)^(n+1)=2^n*2:=Int.pow_succ 2 n
 rcases (by omega:s=0∨s=1∨s=2∨s=3) with rfl | rfl | rfl | rfl<;>rcases (by omega:j=0∨j=1) with rfl | rfl<;>simp [farC,kx,ky,farK,hp]<;>omega
theorem inB_kid {s n:Nat} (hs:s<4) {x y a c:Int}:inB (n+1) x y a c↔∃j,j<2∧(inB n (kx n x (nearK s j)) (ky n y (nearK s j)) a c∨inB n (kx n x (farK s j)) (ky n y (farK s j)) a c):=by
 rw [inB.up]
 have two:∀{p:Nat→Prop},(∃j,j<2∧p j)↔p 0∨p 1:=fun {p}=>by
  constructor
  ·rintro ⟨j,hj,h⟩
   rcases (by omega:j=0∨j=1) with rfl | rfl
   ·exact .inl h
   ·exact .inr h
  ·rintro (h | h)
   ·exact ⟨0,by decide,h⟩
   ·exact ⟨1,by decide,h⟩
 rw [two]
 rcases (by omega:s=0∨s=1∨s=2∨s=3) with rfl | rfl | rfl | rfl<;>simp [kx,ky,nearK,farK]
 ·constructor
  ·rintro (h | h | h | h)<;>simp [h]
  ·rintro ((h | h) | h | h)<;>simp [h]
 ·constructor
  ·rintro (h | h | h | h)<;>simp [h]
  ·rintro ((h | h) | h | h)<;>simp [h]
 ·constructor
  ·rintro (h | h | h | h)<;>simp [h]
  ·rintro ((h | h) | h | h)<;>simp [h]
 ·constructor
  ·rintro (h | h | h | h)<;>simp [h]
  ·rintro ((h | h) | h | h)<;>simp [h]
def LeastS (st:Int×Bool) (Q:Int→Prop):Prop:=(∀d,Q d→st.2=true∧st.1≤d)∧(st.2=true→Q st.1)
theorem lookS_least {v:Tree→Int} {add:Int} {st:Int×Bool} {T:Tree} {Q Q':Int→Prop} (h:LeastS st Q) (hv:if blankT T then ∀d,¬Q' d else (∀d,Q' d→add+v T≤d)∧Q' (add+v T)):LeastS (lookS v add st T) fun d=>Q d∨Q' d:=by
 unfold lookS
 cases hb:blankT T
 ·rw [hb] at hv
  simp only [Bool.false_eq_true,if_false] at hv ⊢
  obtain ⟨h1,h2⟩:=hv
  by_cases hc:(!st.2 || decide (add+v T<st.1))=true
  ·rw [if_pos hc]
   refine ⟨fun d hd=>⟨rfl,?_⟩,fun _=> .inr h2⟩
   rcases hd with hd | hd
   ·have:=h.1 d hd
    simp [this.1] at hc
    show add+v T≤d
    omega
   ·exact h1 d hd
  ·rw [if_neg hc]
   simp at hc
   refine ⟨fun d hd=>?_,fun e=> .inl (h.2 e)⟩
   rcases hd with hd | hd
   ·exact h.1 d hd
   ·have:=h1 d hd
    exact ⟨hc.1,by omega⟩
 ·rw [hb] at hv
  simp only [if_true] at hv ⊢
  exact ⟨fun d hd=>h.1 d (hd.resolve_right (hv d)),fun e=> .inl (h.2 e)⟩
theorem LeastS.congr {st:Int×Bool} {Q Q':Int→Prop} (h:LeastS st Q) (e:∀d,Q d↔Q' d):LeastS st Q':=⟨fun d hd=>h.1 d ((e d).2 hd),fun k=>(e _).1 (h.2 k)⟩
theorem edge_least {s:Nat} (hs:s<4) (P:Int→Int→Bool):∀(n:Nat) (x y:Int),(∃a c,inB n x y a c∧P a c=true)→(∀a c,inB n x y a c→P a c=true→edgeT s n (treeOf P n x y)≤farC s n x y a c)∧∃a c,inB n x y a c∧P a c=true∧farC s n x y a c=edgeT s n (treeOf P n x y)
 | 0,x,y,⟨a0,c0,h0,hp0⟩=>by
   refine ⟨fun a c h _=>(farC_bd h).1,a0,c0,h0,hp0,?_⟩
   have:=farC_bd (s:=s) h0
   simp only [edgeT]
   omega
 | n+1,x,y,hex=>by
   have hk:∀j,j<2→nearK s j<4∧farK s j<4:=fun j hj=>by
    unfold nearK farK
    refine ⟨?_,?_⟩<;>split<;>(try split)<;>(try split)<;>omega
   have one:∀(add:Int) (k:Nat),k<4→if blankT ((treeOf P (n+1) x y).kid k) then ∀d,¬∃a c,inB n (kx n x k) (ky n y k) a c∧P a c=true∧d=add+farC s n (kx n x k) (ky n y k) a c else (∀d,(∃a c,inB n (kx n x k) (ky n y k) a c∧P a c=true∧d=add+farC s n (kx n x k) (ky n y k) a c)→add+edgeT s n ((treeOf P (n+1) x y).kid k)≤d)∧∃a c,inB n (kx n x k) (ky n y k) a c∧P a c=true∧add+edgeT s n ((treeOf P (n+1) x y).kid k)=add+farC s n (kx n x k) (ky n y k) a c:=fun add k hk4=>by
    rw [kid_tree P n x y hk4]
    cases hb:blankT (treeOf P n (kx n x k) (ky n y k))
    ·simp only [Bool.false_eq_true,if_false]
     have hne:∃a c,inB n (kx n x k) (ky n y k) a c∧P a c=true:=by
      refine Classical.byContradiction fun hn=>?_
      have:=(blankT_of P n (kx n x k) (ky n y k)).2 fun a c h=>by
       cases q:P a c
       ·rfl
       ·exact absurd ⟨a,c,h,q⟩ hn
      rw [hb] at this;cases this
     obtain ⟨h1,a,c,h2,h3,h4⟩:=edge_least hs P n (kx n x k) (ky n y k) hne
     refine ⟨?_,a,c,h2,h3,by omega⟩
     rintro d ⟨a,c,h5,h6,rfl⟩
     have:=h1 a c h5 h6
     omega
    ·simp only [if_true]
     rintro d ⟨a,c,h5,h6,rfl⟩
     have:=(blankT_of P n (kx n x k) (ky n y k)).1 hb a c h5
     rw [this] at h6;cases h6
   have z:LeastS (0,false) fun _=>False:=⟨fun d h=>h.elim,fun e=>by cases e⟩
   have hnear:=lookS_least (lookS_least z (one 0 _ (hk 0 (by decide)).1)) (one 0 _ (hk 1 (by decide)).1)
   simp only [edgeT]
   generalize lookS (edgeT s n) 0 (lookS (edgeT s n) 0 (0,false) ((treeOf P (n+1) x y).kid (nearK s 0))) ((treeOf P (n+1) x y).kid (nearK s 1))=A at hnear ⊢
   have inNear:∀j,j<2→∀a c,inB n (kx n x (nearK s j)) (ky n y (nearK s j)) a c→P a c=true→A.2=true∧A.1≤farC s (n+1) x y a c:=fun j hj a c h hp=>by
    rw [farC_near hs hj]
    rcases (by omega:j=0∨j=1) with rfl | rfl
    ·exact hnear.1 _ (.inl (.inr ⟨a,c,h,hp,by omega⟩))
    ·exact hnear.1 _ (.inr ⟨a,c,h,hp,by omega⟩)
   have up1:∀j,j<2→∀a c,inB n (kx n x (nearK s j)) (ky n y (nearK s j)) a c→inB (n+1) x y a c:=fun j hj a c h=>(inB_kid hs).2 ⟨j,hj,.inl h⟩
   have up2:∀j,j<2→∀a c,inB n (kx n x (farK s j)) (ky n y (farK s j)) a c→inB (n+1) x y a c:=fun j hj a c h=>(inB_kid hs).2 ⟨j,hj,.inr h⟩
   cases hA:A.2
   ·have hfar:=lookS_least (lookS_least hnear (one (2^n) _ (hk 0 (by decide)).2)) (one (2^n) _ (hk 1 (by decide)).2)
    simp only [Bool.false_eq_true,if_false]
    generalize lookS (edgeT s n) (2^n) (lookS (edgeT s n) (2^n) A ((treeOf P (n+1) x y).kid (farK s 0))) ((treeOf P (n+1) x y).kid (farK s 1))=B at hfar ⊢
    have inFar:∀a c,inB (n+1) x y a c→P a c=true→B.2=true∧B.1≤farC s (n+1) x y a c:=fun a c h hp=>by
     obtain ⟨j,hj,h | h⟩:=(inB_kid hs).1 h
     ·have:=(inNear j hj a c h hp).1
      rw [hA] at this;cases this
     ·rw [farC_far hs hj]
      rcases (by omega:j=0∨j=1) with rfl | rfl
      ·exact hfar.1 _ (.inl (.inr ⟨a,c,h,hp,rfl⟩))
      ·exact hfar.1 _ (.inr ⟨a,c,h,hp,rfl⟩)
    obtain ⟨a0,c0,h0,hp0⟩:=hex
    refine ⟨fun a c h hp=>(inFar a c h hp).2,?_⟩
    rcases hfar.2 (inFar a0 c0 h0 hp0).1 with (((h | ⟨a,c,h,hp,e⟩) | ⟨a,c,h,hp,e⟩) | ⟨a,c,h,hp,e⟩) | ⟨a,c,h,hp,e⟩
    ·exact h.elim
    ·have:=(inNear 0 (by decide) a c h hp).1
     rw [hA] at this;cases this
    ·have:=(inNear 1 (by decide) a c h hp).1
     rw [hA] at this;cases this
    ·exact ⟨a,c,up2 0 (by decide) a c h,hp,by rw [farC_far hs (j:=0) (by decide),e]⟩
    ·exact ⟨a,c,up2 1 (by decide) a c h,hp,by rw [farC_far hs (j:=1) (by decide),e]⟩
   ·simp only [if_true]
    refine ⟨fun a c h hp=>?_,?_⟩
    ·obtain ⟨j,hj,h | h⟩:=(inB_kid hs).1 h
     ·exact (inNear j hj a c h hp).2
     ·have hb:=farC_bd (s:=s) h
      rw [farC_far hs hj]
      have hq:A.1<2^n:=by
       rcases hnear.2 hA with ((h | ⟨a,c,h,hp,e⟩) | ⟨a,c,h,hp,e⟩)
       ·exact h.elim
       ·have:=farC_bd (s:=s) h;omega
       ·have:=farC_bd (s:=s) h;omega
      omega
    ·rcases hnear.2 hA with ((h | ⟨a,c,h,hp,e⟩) | ⟨a,c,h,hp,e⟩)
     ·exact h.elim
     ·exact ⟨a,c,up1 0 (by decide) a c h,hp,by rw [farC_near hs (j:=0) (by decide),e];omega⟩
     ·exact ⟨a,c,up1 1 (by decide) a c h,hp,by rw [farC_near hs (j:=1) (by decide),e];omega⟩
end Go.Proofs.YthohnjgnpapnoaaGreatDoor
namespace Go.Proofs.YthohnjgnpapnoaaGreatDoor
open Go.RowKit
theorem lookS_bd {v:Tree→Int} {add B:Int} {st:Int×Bool} {T:Tree} (h:0≤st.1∧st.1<B) (hv:0≤add+v T∧add+v T<B):0≤(lookS v add st T).1∧(lookS v add st T).1<B:=by
 unfold lookS
 split
 ·exact h
 ·split
  ·exact hv
  ·exact h
theorem edgeT_bd (s:Nat):∀(n:Nat) (T:Tree),0≤edgeT s n T∧edgeT s n T<2^n
 | 0,_=>by simp only [edgeT];omega
 | n+1,T=>by
   have hp:=pow_pos2 n
   have hp1:(2:Int)^(n+1)=2^n*2:=Int.pow_succ 2 n
   have e0:∀U,0≤0+edgeT s n U∧0+edgeT s n U<2^(n+1):=fun U=>by have:=edgeT_bd s n U;omega
   have e1:∀U,0≤2^n+edgeT s n U∧2^n+edgeT s n U<2^(n+1):=fun U=>by have:=edgeT_bd s n U;omega
   have h0:=lookS_bd (v:=edgeT s n) (lookS_bd (v:=edgeT s n) (add:=0) (B:=2^(n+1)) (st:=(0,false)) (T:=T.kid (nearK s 0)) (by show (0:Int)≤0∧(0:Int)<_;omega) (e0 _)) (e0 (T.kid (nearK s 1)))
   simp only [edgeT]
   split
   ·exact h0
   ·exact lookS_bd (lookS_bd h0 (e1 _)) (e1 _)
structure Eg (w:World) (wb mb eb p:Nat) (R:ArR) (S:ArS) (A:Nat→Abs) (t s:Nat) (K:List Int) (m:Int→Int) (K2:List Int) (m2:Int→Int):Prop where
 wk:Wk w wb mb p R S A t 0 K m
 map:MapN w eb K2 m2
 no:¬Own p R eb
 ne:eb≠mb
 nodup:K2.Nodup
 memo:∀x∈K2,∃(n:Nat) (T:Tree),Has S A t x T∧Pf n T∧m2 x=edgeT s n T
def EdX (wb mb eb:Nat):Nat→Prop:=fun b=>WX wb mb b∨b=eb
section
variable {w w' w1 : World} {wb mb eb p t s : Nat} {R : ArR} {S : ArS} {A : Nat → Abs} {K K' : List Int} {m m' : Int → Int} {K2 K2' : List Int} {m2 m2' : Int → Int}
theorem Eg.ew (h:Eg w wb mb eb p R S A t s K m K2 m2):eb≠wb:=h.map.ne h.wk.hd.blk
theorem Eg.few (h:Eg w wb mb eb p R S A t s K m K2 m2):K2.length<maxLen:=by
 have hl:=h.wk.hd.inv.lenN
 have:K2.length≤((List.range 200002).map fun i:Nat=>(i:Int)).length:=List.Nodup.length_le_of_subset h.nodup fun x hx=>by
  obtain ⟨n,T,hT,_⟩:=h.memo x hx
  have h1:∃i:Nat,i<200002∧x=(i:Int):=by
   cases T with
   | dead=>have h0:=hT.1;simp only [Den] at h0;exact ⟨0,by omega,h0⟩
   | alive=>have h0:=hT.1;simp only [Den] at h0;exact ⟨1,by omega,h0⟩
   | node a b c d=>
     have h0:=hT.1
     simp only [Den] at h0
     obtain ⟨i,e,rfl,h3,_⟩:=h0
     have:=(List.getElem?_eq_some_iff.1 h3).1
     exact ⟨i,by omega,rfl⟩
  obtain ⟨i,h1,rfl⟩:=h1
  exact List.mem_map.2 ⟨i,List.mem_range.2 h1,rfl⟩
 rw [List.length_map,List.length_range] at this
 unfold maxLen;omega
theorem Eg.walk (h:Eg w wb mb eb p R S A t s K m K2 m2) (hw:Wk w' wb mb p R S A t 0 K' m') (hs:StepH (WX wb mb) p R R w w'):Eg w' wb mb eb p R S A t s K' m' K2 m2:=
 ⟨hw,h.map.mod hs.mod fun ho=>by
  rcases ho with ho | ho | ho
  ·exact h.no ho
  ·exact h.ew ho
  ·exact h.ne ho,h.no,h.ne,h.nodup,h.memo⟩
theorem Eg.below (h:Eg w wb mb eb p R S A t s K m K2 m2) (hb:Below w.heap.size w w'):Eg w' wb mb eb p R S A t s K m K2 m2:=
 ⟨h.wk.below hb,h.map.mod (Mod.of_below_all hb) (fun h=>h),h.no,h.ne,h.nodup,h.memo⟩
theorem Eg.far {T:Nat→Prop} (h:Eg w wb mb eb p R S A t s K m K2 m2) (hm:Mod T w w') (h1:∀b,Own p R b→¬T b) (h2:¬T wb) (h3:¬T mb) (h4:¬T eb):Eg w' wb mb eb p R S A t s K m K2 m2:=
 ⟨⟨h.wk.hd.keep hm h1 h2,h.wk.map.mod hm h3,h.wk.no,h.wk.nodup,h.wk.memo,h.wk.none⟩,h.map.mod hm h4,h.no,h.ne,h.nodup,h.memo⟩
theorem Eg.known (h:Eg w wb mb eb p R S A t s K m K2 m2) {x:Int} (hx:x∈K2) {n:Nat} {T:Tree} (hT:Has S A t x T) (hl:Pf n T):m2 x=edgeT s n T:=by
 obtain ⟨n',T',g1,g2,g3⟩:=h.memo x hx
 have e:=Den.fn h.wk.hd.inv g1.1 hT.1
 subst e
 have:n'=n:=by have h1:=g2.lvl;have h2:=hl.lvl;omega
 subst this
 exact g3
theorem Eg.put (h:Eg w wb mb eb p R S A t s K m K2 m2) {x:Int} {n:Nat} {T:Tree} (hT:Has S A t x T) (hl:Pf n T) (hn:n≤61):
 ∃w',(Instr.mapUpdate 234 (.map (some eb)) (.int .i64 x) (.int .i64 (edgeT s n T))).run Tryz.prog w= .ok () w'∧Eg w' wb mb eb p R S A t s K m (if x∈K2 then K2 else x::K2) (fun y=>if y=x then edgeT s n T else m2 y)∧StepH (EdX wb mb eb) p R R w w':=by
 have hb:=edgeT_bd s n T
 have hp:=pow_i64 (n:=n) (by omega)
 obtain ⟨w',h3,h4,h5⟩:=h.map.put (x:=x) (v:=edgeT s n T) (hT.1.i64 h.wk.hd.inv) h.few ⟨by omega,by omega⟩
 refine ⟨w',h3,⟨⟨h.wk.hd.keep h5 (fun b hb e=>h.no (e▸hb)) (fun e=>h.ew e.symm),h.wk.map.mod h5 (fun e=>h.ne e.symm),h.wk.no,h.wk.nodup,h.wk.memo,h.wk.none⟩,h4,h.no,h.ne,?_,fun y hy=>?_⟩,h5.mono fun b _ e=> .inr (.inr e),fun _ h=> .inl h⟩
 ·split
  ·exact h.nodup
  ·exact List.nodup_cons.2 ⟨by assumption,h.nodup⟩
 ·by_cases e:y=x
  ·subst e
   exact ⟨n,T,hT,hl,by simp only [if_true]⟩
  ·obtain ⟨n',T',g2,g3,g4⟩:=h.memo y (by
    split at hy
    ·exact hy
    ·rcases List.mem_cons.1 hy with q | q
     ·exact absurd q e
     ·exact q)
   exact ⟨n',T',g2,g3,by simp only [e,if_false];exact g4⟩
end
end Go.Proofs.YthohnjgnpapnoaaGreatDoor
namespace Go.Proofs.YthohnjgnpapnoaaGreatDoor
open Go.RowKit
structure EB where
 base:Nat
 wc:Nat
 qc:Nat
 lc:Nat
 sc:Nat
 mc:Nat
 fc:Nat
 bc:Nat
structure EBOk (B:EB) (wb mb eb p:Nat) (R:ArR):Prop where
 lo:B.base≤B.wc∧B.base≤B.qc∧B.base≤B.lc∧B.base≤B.sc∧B.base≤B.mc∧B.base≤B.fc∧B.base≤B.bc
 nw:wb<B.base∧mb<B.base∧eb<B.base
 own:∀b,Own p R b→b<B.base
 f:B.wc≠B.fc∧B.qc≠B.fc∧B.lc≠B.fc∧B.sc≠B.fc∧B.mc≠B.fc∧B.bc≠B.fc
 b:B.wc≠B.bc∧B.qc≠B.bc∧B.lc≠B.bc∧B.sc≠B.bc∧B.mc≠B.bc
structure Ec (w:World) (wb mb eb:Nat) (B:EB) (p:Nat) (R:ArR) (S:ArS) (A:Nat→Abs) (t s n:Nat) (Q:Nat→Int) (st:Int×Bool) (K:List Int) (m:Int→Int) (K2:List Int) (m2:Int→Int):Prop where
 eg:Eg w wb mb eb p R S A t s K m K2 m2
 ok:EBOk B wb mb eb p R
 cw:Blk w B.wc 232 #[.pointer (some ⟨wb,0,none⟩)]
 cq:Blk w B.qc 22 (QC Q)
 cl:Blk w B.lc 3 #[.int .i64 ((n:Int)+1)]
 cs:Blk w B.sc 3 #[.int .i64 s]
 cm:Blk w B.mc 234 #[.map (some eb)]
 cf:Blk w B.fc 4 #[.bool st.2]
 cb:Blk w B.bc 3 #[.int .i64 st.1]
def LX (wb mb eb:Nat) (B:EB):Nat→Prop:=fun b=>EdX wb mb eb b∨b=B.fc∨b=B.bc
section
variable {w w' w1 : World} {wb mb eb p t s n : Nat} {B : EB} {R : ArR} {S : ArS} {A : Nat → Abs} {Q : Nat → Int} {st st2 : Int × Bool} {K K' : List Int} {m m' : Int → Int} {K2 K2' : List Int} {m2 m2' : Int → Int}
theorem EBOk.far (h:EBOk B wb mb eb p R) {z:Nat} (hz:B.base≤z):¬(Own p R z∨EdX wb mb eb z):=by
 obtain ⟨n1,n2,n3⟩:=h.nw
 rintro (e | (e | e) | e)
 ·have:=h.own z e;omega
 ·omega
 ·omega
 ·omega
theorem Ec.walk (h:Ec w wb mb eb B p R S A t s n Q st K m K2 m2) (he:Eg w' wb mb eb p R S A t s K' m' K2' m2') (hs:StepH (EdX wb mb eb) p R R w w'):Ec w' wb mb eb B p R S A t s n Q st K' m' K2' m2':=by
 obtain ⟨l1,l2,l3,l4,l5,l6,l7⟩:=h.ok.lo
 exact ⟨he,h.ok,h.cw.mod hs.mod (h.ok.far l1),h.cq.mod hs.mod (h.ok.far l2),h.cl.mod hs.mod (h.ok.far l3),h.cs.mod hs.mod (h.ok.far l4),h.cm.mod hs.mod (h.ok.far l5),h.cf.mod hs.mod (h.ok.far l6),h.cb.mod hs.mod (h.ok.far l7)⟩
theorem Ec.below (h:Ec w wb mb eb B p R S A t s n Q st K m K2 m2) (hb:Below w.heap.size w w'):Ec w' wb mb eb B p R S A t s n Q st K m K2 m2:=
 ⟨h.eg.below hb,h.ok,h.cw.mod (Mod.of_below_all hb) id,h.cq.mod (Mod.of_below_all hb) id,h.cl.mod (Mod.of_below_all hb) id,h.cs.mod (Mod.of_below_all hb) id,h.cm.mod (Mod.of_below_all hb) id,h.cf.mod (Mod.of_below_all hb) id,h.cb.mod (Mod.of_below_all hb) id⟩
theorem Wk.drew (h:Wk w wb mb p R S A t 0 K m):Wk w.drew wb mb p R S A t 0 K m:=⟨h.hd.drew,h.map.of_block rfl,h.no,h.nodup,h.memo,h.none⟩
theorem Eg.drew (h:Eg w wb mb eb p R S A t s K m K2 m2):Eg w.drew wb mb eb p R S A t s K m K2 m2:=⟨h.wk.drew,h.map.of_block rfl,h.no,h.ne,h.nodup,h.memo⟩
theorem Ec.drew (h:Ec w wb mb eb B p R S A t s n Q st K m K2 m2):Ec w.drew wb mb eb B p R S A t s n Q st K m K2 m2:=⟨h.eg.drew,h.ok,h.cw,h.cq,h.cl,h.cs,h.cm,h.cf,h.cb⟩
theorem Ec.best (h:Ec w wb mb eb B p R S A t s n Q st K m K2 m2) (x:Int):Ec ((w.setCell ⟨B.bc,0,none⟩ (.int .i64 x)).setCell ⟨B.fc,0,none⟩ (.bool true)) wb mb eb B p R S A t s n Q (x,true) K m K2 m2∧StepH (LX wb mb eb B) p R R w ((w.setCell ⟨B.bc,0,none⟩ (.int .i64 x)).setCell ⟨B.fc,0,none⟩ (.bool true)):=by
 have hm:Mod (fun b=>b=B.fc∨b=B.bc) w ((w.setCell ⟨B.bc,0,none⟩ (.int .i64 x)).setCell ⟨B.fc,0,none⟩ (.bool true)):=((Mod.refl (fun b=>b=B.fc∨b=B.bc) w).set (p:=⟨B.bc,0,none⟩) (fun _=> .inr rfl) _).set (p:=⟨B.fc,0,none⟩) (fun _=> .inl rfl) _
 obtain ⟨l1,l2,l3,l4,l5,l6,l7⟩:=h.ok.lo
 obtain ⟨n1,n2,n3⟩:=h.ok.nw
 obtain ⟨f1,f2,f3,f4,f5,f6⟩:=h.ok.f
 obtain ⟨b1,b2,b3,b4,b5⟩:=h.ok.b
 have no:∀{z},z≠B.fc→z≠B.bc→¬(z=B.fc∨z=B.bc):=fun h1 h2 e=>e.elim h1 h2
 refine ⟨⟨h.eg.far hm (fun b hb=>?_) (no (by omega) (by omega)) (no (by omega) (by omega)) (no (by omega) (by omega)),h.ok,h.cw.mod hm (no f1 b1),h.cq.mod hm (no f2 b2),h.cl.mod hm (no f3 b3),h.cs.mod hm (no f4 b4),h.cm.mod hm (no f5 b5),?_,?_⟩,⟨hm.mono fun b _ e=> .inr (.inr e),fun _ h=> .inl h⟩⟩
 ·have:=h.ok.own b hb
  exact no (by omega) (by omega)
 ·exact (h.cf.far (p:=⟨B.bc,0,none⟩) (Ne.symm f6) _).set 0 _
 ·exact (h.cb.set 0 _).far (p:=⟨B.fc,0,none⟩) f6 _
end
def EgPost (w:World) (wb mb eb p:Nat) (R:ArR) (S:ArS) (A:Nat→Abs) (t s n:Nat) (T:Tree) (e:Ending) (w':World):Prop:=
 ∃(K:List Int) (m:Int→Int) (K2:List Int) (m2:Int→Int),e= .returned (.int .i64 (edgeT s n T))∧Eg w' wb mb eb p R S A t s K m K2 m2∧StepH (EdX wb mb eb) p R R w w'
def EgOk (s n:Nat):Prop:=∀(w:World) (wb mb eb p:Nat) (R:ArR) (S:ArS) (A:Nat→Abs) (t:Nat) (K:List Int) (m:Int→Int) (K2:List Int) (m2:Int→Int),Eg w wb mb eb p R S A t s K m K2 m2→∀(id:Int) (T:Tree),Pf n T→Has S A t id T→
 Calls Tryz.prog 160 #[.pointer (some ⟨wb,0,none⟩),.int .i64 id,.int .i64 n,.int .i64 s,.map (some eb)] w (EgPost w wb mb eb p R S A t s n T)
def LkPost (w:World) (wb mb eb:Nat) (B:EB) (p:Nat) (R:ArR) (S:ArS) (A:Nat→Abs) (t s n:Nat) (Q:Nat→Int) (st:Int×Bool) (e:Ending) (w':World):Prop:=
 ∃(K:List Int) (m:Int→Int) (K2:List Int) (m2:Int→Int),e= .returned (.tuple #[])∧Ec w' wb mb eb B p R S A t s n Q st K m K2 m2∧StepH (LX wb mb eb B) p R R w w'
def look2 (s n:Nat) (add:Int) (U:Nat→Tree) (k0 k1:Nat) (st:Int×Bool) (j:Nat):Int×Bool:=
 if j=0 then st else if j=1 then lookS (edgeT s n) add st (U k0) else lookS (edgeT s n) add (lookS (edgeT s n) add st (U k0)) (U k1)
set_option maxRecDepth 100000 in
set_option maxHeartbeats 3200000 in
theorem look_any (s n:Nat) (hs:s<4) (hn:n≤43) (ih:EgOk s n) (w:World) (wb mb eb:Nat) (B:EB) (p:Nat) (R:ArR) (S:ArS) (A:Nat→Abs) (t:Nat) (Q:Nat→Int) (st:Int×Bool) (K:List Int) (m:Int→Int) (K2:List Int) (m2:Int→Int) (h:Ec w wb mb eb B p R S A t s n Q st K m K2 m2)
 (U:Nat→Tree) (hU:∀j,j<4→Has S A t (Q j) (U j)∧Pf n (U j)) (k0 k1:Nat) (h0:k0<4) (h1:k1<4) (add:Int) (ha:0≤add∧add≤17592186044416):
 Calls Tryz.prog 192 #[.agg #[.int .i64 k0,.int .i64 k1],.int .i64 add,.pointer (some ⟨B.wc,0,none⟩),.pointer (some ⟨B.qc,0,none⟩),.pointer (some ⟨B.lc,0,none⟩),.pointer (some ⟨B.sc,0,none⟩),.pointer (some ⟨B.mc,0,none⟩),.pointer (some ⟨B.fc,0,none⟩),.pointer (some ⟨B.bc,0,none⟩)] w (LkPost w wb mb eb B p R S A t s n Q (look2 s n add U k0 k1 st 2)):=by
 have H:=Lib.hid h
 have HU:=Lib.hid hU
 have IH:=Lib.hid ih
 have HK:=Lib.hid (And.intro h0 h1)
 obtain ⟨ha0,ha1⟩:=ha
 have hn0:(n:Int)≤43:=by omega
 clear h hU ih
 go_enter Tryz.func192,Tryz.ntmps192
 go_wp2_with fail
 have HB1:Hid (Below w.heap.size w (w.alloc (.cells #[.int .i64 k0,.int .i64 k1] 275))):=(Below.refl _ _).alloc (Nat.le_refl _) _
 have H1:=Lib.hid (H.out.below HB1.out)
 have HS1:Hid (StepH (LX wb mb eb B) p R R w (w.alloc (.cells #[.int .i64 k0,.int .i64 k1] 275))):=StepH.of_below HB1.out
 generalize World.alloc w _=w1 at*
 clear HB1
 go_loopw [15] (fun jv wx=>∃(j:Nat) (K:List Int) (m:Int→Int) (K2:List Int) (m2:Int→Int),jv= .int .i64 j∧j≤2∧Ec wx wb mb eb B p R S A t s n Q (look2 s n add U k0 k1 st j) K m K2 m2∧StepH (LX wb mb eb B) p R R w wx) (fun jv _=>2-(intOf jv).toNat)
 case atStart=>exact ⟨0,K,m,K2,m2,rfl,Nat.zero_le _,H1.out,HS1.out⟩
 case round=>
  clear H H1 HS1
  obtain ⟨j,K,m,K2,m2,rfl,hj,hC,hS⟩:=hrel
  have HC:=Lib.hid hC
  have HST:=Lib.hid hS
  clear hC hS
  by_cases hj2:j<2
  ·obtain ⟨k,hk,hk4,hnx⟩:∃k:Nat,(∀w:World,(Instr.index 275 (.agg #[.int .i64 k0,.int .i64 k1]) (.int .i64 (j:Int))).run Tryz.prog w= .ok (.int .i64 k) w)∧k<4∧look2 s n add U k0 k1 st (j+1)=lookS (edgeT s n) add (look2 s n add U k0 k1 st j) (U k):=by
    rcases (by omega:j=0∨j=1) with rfl | rfl
    ·exact ⟨k0,fun w=>by kernel_rfl,HK.out.1,rfl⟩
    ·exact ⟨k1,fun w=>by kernel_rfl,HK.out.2,rfl⟩
   have HJ2:=Lib.hid hj2
   have HNX:=Lib.hid hnx
   have hji:(j:Int)<2:=by omega
   have hwj:IntKind.i64.wrap ((j:Int)+1)=(j:Int)+1:=by rw [IntKind.wrap_i64];omega
   have hki:(k:Int)<4:=by omega
   have HUK:=Lib.hid (HU.out k hk4)
   generalize hst:look2 s n add U k0 k1 st j=sj at*
   clear hj hj2 hnx hst
   have cq:=HC.out.cq.cellS (QC_get Q hk4)
   have cw:=HC.out.cw.cellS (i:=0) rfl
   have HK4:=Lib.hid hk4
   have HE:=Lib.hid (fun wx (hw:Wk wx wb mb p R S A t 0 K m)=>wempty_any (U k) wx wb mb p R S A t K m hw (Q k) HUK.out.1)
   clear hk4
   go_wp2_with fail
   go_cut [22] (fun bv wx=>∃K m,bv= .bool (blankT (U k))∧Ec wx wb mb eb B p R S A t s n Q sj K m K2 m2∧StepH (LX wb mb eb B) p R R w wx)
   case first=>
    go_region_held3 (fun w'=>w'.cell? ⟨B.wc,0,none⟩=some (.pointer (some ⟨wb,0,none⟩))∧w'.cell? ⟨B.qc,k,none⟩=some (.int .i64 (Q k)))
     (first | (with_reducible exact ⟨cw,cq⟩) | (with_reducible exact ⟨e0,e1⟩) | go_keep)
     ((go_at_call 159;refine (HE.out _ (by exact HC.out.eg.wk.drew)).mono ?_;intro e w3 hq;obtain ⟨K3,m3,rfl,hw3,hs3⟩:=hq;have HC3:=Lib.hid (HC.out.drew.walk (HC.out.eg.drew.walk hw3 hs3) (hs3.wide fun b _ e=> .inl e));have e0:=HC3.out.cw.cellS (i:=0) rfl;have e1:=HC3.out.cq.cellS (QC_get Q HK4.out)))
    all_goals (
     clear cq cw e0 e1
     go_wp2_with fail
     go_meet
     exact ⟨K3,m3,rfl,HC3.out,HST.out.drew.trans (hs3.wide fun b _ e=> .inl (.inl e))⟩)
   case rest=>
    obtain ⟨K3,m3,rfl,hC3,hS3⟩:=hcut
    have HC3:=Lib.hid hC3
    have HS3:=Lib.hid hS3
    clear hC3 hS3 cq cw HC HST HE
    by_cases hbl:blankT (U k)=true
    ·have HN2:Hid (look2 s n add U k0 k1 st (j+1)=sj):=by
      show _=_
      rw [HNX.out];unfold lookS;rw [if_pos hbl]
     rw [hbl]
     clear hbl
     go_wp2_with fail
     go_roundw
     case rel=>exact ⟨j+1,K3,m3,K2,m2,by go_num,HJ2.out,by rw [HN2.out];exact HC3.out,HS3.out⟩
     case measure=>simp [intOf];have:=HJ2.out;omega
    ·have hbf:blankT (U k)=false:=by simpa using hbl
     have HBL:=Lib.hid hbf
     have HG:=Lib.hid (fun wx (hw:Eg wx wb mb eb p R S A t s K3 m3 K2 m2)=>IH.out wx wb mb eb p R S A t K3 m3 K2 m2 hw (Q k) (U k) HUK.out.2 HUK.out.1)
     rw [hbf]
     clear hbf hbl
     have d0:=HC3.out.cw.cellS (i:=0) rfl
     have d1:=HC3.out.cq.cellS (QC_get Q HK4.out)
     have d2:=HC3.out.cl.cellS (i:=0) rfl
     have d3:=HC3.out.cs.cellS (i:=0) rfl
     have d4:=HC3.out.cm.cellS (i:=0) rfl
     have hn1:(n:Int)+1-1=(n:Int):=by omega
     have hwn:IntKind.i64.wrap (n:Int)=(n:Int):=by rw [IntKind.wrap_i64];omega
     have hbd:=edgeT_bd s n (U k)
     have hp43:(2:Int)^n≤8796093022208:=by
      have h1:=Nat.pow_le_pow_right (n:=2) (by decide) hn
      have h2:((2^n:Nat):Int)≤((2^43:Nat):Int):=Int.ofNat_le.2 h1
      rw [show (2:Nat)^43=8796093022208 by decide] at h2
      simpa using h2
     have HV:Hid (lookS (edgeT s n) add sj (U k)=if !sj.2 || decide (add+edgeT s n (U k)<sj.1) then (add+edgeT s n (U k),true) else sj):=by
      show _=_
      unfold lookS;rw [HBL.out];rfl
     obtain ⟨v,hv⟩:∃v,v=edgeT s n (U k):=⟨_,rfl⟩
     rw [←hv] at hbd HV
     have HVV:=Lib.hid hv
     have hv0:0≤v:=hbd.1
     have hv1:v≤8796093022208:=by omega
     have hwa:IntKind.i64.wrap (add+v)=add+v:=by rw [IntKind.wrap_i64];omega
     clear hbd hp43 hv
     go_wp2_with fail
     go_cut [13] (fun nv wx=>∃K m K2 m2,nv= .int .i64 (add+v)∧Ec wx wb mb eb B p R S A t s n Q sj K m K2 m2∧StepH (LX wb mb eb B) p R R w wx)
     case first=>
      go_region_held3 (fun w'=>w'.cell? ⟨B.wc,0,none⟩=some (.pointer (some ⟨wb,0,none⟩))∧w'.cell? ⟨B.qc,k,none⟩=some (.int .i64 (Q k))∧w'.cell? ⟨B.lc,0,none⟩=some (.int .i64 ((n:Int)+1))∧w'.cell? ⟨B.sc,0,none⟩=some (.int .i64 s)∧w'.cell? ⟨B.mc,0,none⟩=some (.map (some eb)))
       (first | (with_reducible exact ⟨d0,d1,d2,d3,d4⟩) | (with_reducible exact ⟨e0,e1,e2,e3,e4⟩) | go_keep)
       ((go_at_call 160;refine (HG.out _ (by exact HC3.out.eg.drew)).mono ?_;intro e w4 hq;obtain ⟨K4,m4,K5,m5,rfl,he4,hs4⟩:=hq;rw [←HVV.out];have HC4:=Lib.hid (HC3.out.drew.walk he4 hs4);have e0:=HC4.out.cw.cellS (i:=0) rfl;have e1:=HC4.out.cq.cellS (QC_get Q HK4.out);have e2:=HC4.out.cl.cellS (i:=0) rfl;have e3:=HC4.out.cs.cellS (i:=0) rfl;have e4:=HC4.out.cm.cellS (i:=0) rfl))
      all_goals (
       have HS4:=Lib.hid (HS3.out.drew.trans (hs4.wide fun b _ e=> .inl e))
       clear d0 d1 d2 d3 d4 e0 e1 e2 e3 e4
       go_wp2_with fail
       go_meet
       exact ⟨K4,m4,K5,m5,rfl,HC4.out,HS4.out⟩)
     case rest=>
      obtain ⟨K4,m4,K5,m5,rfl,hC4,hS4⟩:=hcut
      have HC4:=Lib.hid hC4
      have HS4:=Lib.hid hS4
      have cf:=HC4.out.cf.cellS (i:=0) rfl
      have cb:=HC4.out.cb.cellS (i:=0) rfl
      have ff:=HC4.out.cf.frozen 0
      have fb:=HC4.out.cb.frozen 0
      have hf2:=HC4.out.cf.far (p:=⟨B.bc,0,none⟩) (Ne.symm HC4.out.ok.f.2.2.2.2.2) (.int .i64 (add+v))
      have cf2:=hf2.cellS (i:=0) rfl
      have ff2:=hf2.frozen 0
      clear hf2
      clear hC4 hS4 d0 d1 d2 d3 d4 HC3 HS3 HG
      have hdone:∀wx,(wx=(wc.setCell ⟨B.bc,0,none⟩ (.int .i64 (add+v))).setCell ⟨B.fc,0,none⟩ (.bool true)∧look2 s n add U k0 k1 st (j+1)=(add+v,true)∨wx=wc∧look2 s n add U k0 k1 st (j+1)=sj)→∃K m K2 m2,Ec wx wb mb eb B p R S A t s n Q (look2 s n add U k0 k1 st (j+1)) K m K2 m2∧StepH (LX wb mb eb B) p R R w wx:=fun wx hx=>by
       rcases hx with ⟨rfl,e⟩ | ⟨rfl,e⟩
       ·rw [e]
        obtain ⟨g1,g2⟩:=HC4.out.best (add+v)
        exact ⟨K4,m4,K5,m5,g1,HS4.out.trans g2⟩
       ·rw [e];exact ⟨K4,m4,K5,m5,HC4.out,HS4.out⟩
      have HDN:=Lib.hid hdone
      clear hdone
      obtain ⟨sb,sf⟩:=sj
      dsimp only at cf cb cf2
      cases sf
      ·have HX:Hid (look2 s n add U k0 k1 st (j+1)=(add+v,true)):=by
        show _=_
        rw [HNX.out,HV.out];rfl
       go_wp2_with fail
       obtain ⟨K6,m6,K7,m7,g1,g2⟩:=HDN.out _ (.inl ⟨rfl,HX.out⟩)
       have G1:=Lib.hid g1
       have G2:=Lib.hid g2
       clear g1 g2 cf cb ff fb cf2 ff2
       go_roundw
       case rel=>exact ⟨j+1,K6,m6,K7,m7,by go_num,HJ2.out,G1.out,G2.out⟩
       case measure=>simp [intOf];have:=HJ2.out;omega
      ·by_cases hlt:add+v<sb
       ·have HX:Hid (look2 s n add U k0 k1 st (j+1)=(add+v,true)):=by
         show _=_
         rw [HNX.out,HV.out];simp [hlt]
        go_wp2_with fail
        obtain ⟨K6,m6,K7,m7,g1,g2⟩:=HDN.out _ (.inl ⟨rfl,HX.out⟩)
        have G1:=Lib.hid g1
        have G2:=Lib.hid g2
        clear g1 g2 cf cb ff fb cf2 ff2
        go_roundw
        case rel=>exact ⟨j+1,K6,m6,K7,m7,by go_num,HJ2.out,G1.out,G2.out⟩
        case measure=>simp [intOf];have:=HJ2.out;omega
       ·have HX:Hid (look2 s n add U k0 k1 st (j+1)=(sb,true)):=by
         show _=_
         rw [HNX.out,HV.out];simp [hlt]
        obtain ⟨K6,m6,K7,m7,g1,g2⟩:=HDN.out _ (.inr ⟨rfl,HX.out⟩)
        have G1:=Lib.hid g1
        have G2:=Lib.hid g2
        clear g1 g2
        go_wp2_with fail
        clear cf cb ff fb cf2 ff2
        go_roundw
        case rel=>exact ⟨j+1,K6,m6,K7,m7,by go_num,HJ2.out,G1.out,G2.out⟩
        case measure=>simp [intOf];have:=HJ2.out;omega
  ·obtain rfl:j=2:=by omega
   clear hj hj2
   go_wp2_with fail
   go_returns
   exact ⟨K,m,K2,m2,rfl,HC.out,HST.out⟩
end Go.Proofs.YthohnjgnpapnoaaGreatDoor
