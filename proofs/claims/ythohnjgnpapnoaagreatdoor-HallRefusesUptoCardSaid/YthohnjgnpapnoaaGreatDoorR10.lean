/- quad: kids, level, done of a hand. · leap: perfect squares; what a square becomes is what its cells become. No program is named here. · rule.Good. · rule.Lives; lifelodgekeep.right. · leap: a leaper in memory; fail. -/
import Derived.Test.YthohnjgnpapnoaaGreatDoorR9
import Derived.Test.YthohnjgnpapnoaaGreatDoorR8
import Derived.Test.YthohnjgnpapnoaaGreatDoorRows
import Derived.Test.YthohnjgnpapnoaaGreatDoorR1
import Derived.Test.YthohnjgnpapnoaaGreatDoorR5
import Derived.Laws.BitsLemmas
import Derived.Laws.Bits64
import Derived.IntWalk
import Derived.BigGuardPart
import Derived.Deep.RegionHeld3
import Derived.Laws.ResultCell
import Derived.Test.YthohnjgnpapnoaaGreatDoorR2
set_option linter.unusedVariables false
set_option linter.unusedSimpArgs false
namespace Go.Proofs.YthohnjgnpapnoaaGreatDoor
open Go.RowKit
theorem kids_has {S:ArS} {A:Nat→Abs} {t:Nat} {id:Int} {a b c d:Tree} {e:Ending} (hr:Rel S A) (ht:t<64) (h:Has S A t id (.node a b c d)) (hk:kidsA S t id e):
 ∃k0 k1 k2 k3:Int,e= .returned (.tuple #[.agg #[.int .i64 k0,.int .i64 k1,.int .i64 k2,.int .i64 k3],.int .i64 0])∧Has S A t k0 a∧Has S A t k1 b∧Has S A t k2 c∧Has S A t k3 d:=by
 obtain ⟨hd,hh⟩:=h
 have ho:=hr.owns ht hd
 have hm:Thing.sq a b c d∈(A t).have_:=of_decide_eq_true hh
 obtain ⟨h0,h1,h2,h3⟩:=(hr.ok t ht).closed _ hm
 rw [hh] at ho
 have hd2:=hd
 simp only [Den] at hd
 obtain ⟨i,en,rfl,g1,g2,g3,g4,d0,d1,d2,d3⟩:=hd
 rcases hk with ⟨hk,_⟩ | ⟨i',en',q1,q2,q3,q4,rfl⟩
 ·rcases hk with hk | hk
  ·rw [ho] at hk;cases hk
  ·have:=hr.inv.two g2;omega
 ·have:i=i':=by omega
  subst this
  rw [g1] at q3;cases q3
  exact ⟨_,_,_,_,rfl,⟨d0,h0⟩,⟨d1,h1⟩,⟨d2,h2⟩,⟨d3,h3⟩⟩
def KidsPost (w:World) (hb:Nat) (ty:TypeId) (more:List Value) (p:Nat) (R:ArR) (S:ArS) (A:Nat→Abs) (t:Nat) (bad:Int) (a b c d:Tree) (e:Ending) (w':World):Prop:=
 ∃k0 k1 k2 k3:Int,e= .returned (.agg #[.int .i64 k0,.int .i64 k1,.int .i64 k2,.int .i64 k3])∧(bad=0→Has S A t k0 a∧Has S A t k1 b∧Has S A t k2 c∧Has S A t k3 d)∧(bad≠0→k0=0∧k1=0∧k2=0∧k3=0)∧Hd w' hb ty more p R S A t bad∧StepH (fun b=>b=hb) p R R w w'
structure Mid4 (w:World) (hb:Nat) (ty:TypeId) (more:List Value) (p:Nat) (R:ArR) (S:ArS) (A:Nat→Abs) (t:Nat) (k0 k1 k2 k3:Int) (w5:World) (qb:Nat):Prop where
 hd:Hd w5 hb ty more p R S A t 0
 q:Blk w5 qb 22 #[.int .i64 k0,.int .i64 k1,.int .i64 k2,.int .i64 k3]
 r:Blk w5 w.heap.size 22 #[.int .i64 0,.int .i64 0,.int .i64 0,.int .i64 0]
 ne1:qb≠w.heap.size
 ne2:hb≠qb
 ne3:hb≠w.heap.size
 st:StepH (fun b=>b=hb) p R R w w5
section
variable {w w2 w3 : World} {hb : Nat} {ty : TypeId} {more : List Value} {p : Nat} {R : ArR} {S : ArS} {A : Nat → Abs} {t : Nat} {k0 k1 k2 k3 : Int}
theorem StepH.below {X:Nat→Prop} {R':ArR} (h:StepH X p R R' w w2) (hb:Below w2.heap.size w2 w3):StepH X p R R' w w3:=h.trans (StepH.of_below hb)
theorem mid4_a (H:Hd w hb ty more p R S A t 0) (H2:Hd w2 hb ty more p R S A t 0) (hs:StepH (fun b=>b=hb) p R R w w2) (hr:Blk w2 w.heap.size 22 #[.int .i64 0,.int .i64 0,.int .i64 0,.int .i64 0]) (hb3:Below w2.drew.heap.size w2.drew w3):
 Mid4 w hb ty more p R S A t k0 k1 k2 k3 (w3.alloc (.cells #[.int .i64 k0,.int .i64 k1,.int .i64 k2,.int .i64 k3] 22)) w3.heap.size:=by
 have h1:=hr.lt
 have h2:=hb3.size
 have h3:=H.blk.lt
 have h4:w2.heap.size≤w3.heap.size:=h2
 exact ⟨(H2.drew.below hb3).alloc _,Blk.new _ _ _,(hr.drew.mod (Mod.of_below_all hb3) (fun h=>h)).alloc _,by omega,by omega,by omega,(hs.drew.below hb3).alloc _⟩
theorem keep_w4 {z:Nat} {v0 v1:Value} (hne:hb≠z) (e0:w.cell? ⟨hb,0,none⟩=some v0) (e1:w.cell? ⟨hb,1,none⟩=some v1) (u0 u1 u2 u3:Value):
 ((((w.setCell ⟨z,0,none⟩ u0).setCell ⟨z,1,none⟩ u1).setCell ⟨z,2,none⟩ u2).setCell ⟨z,3,none⟩ u3).cell? ⟨hb,0,none⟩=some v0∧((((w.setCell ⟨z,0,none⟩ u0).setCell ⟨z,1,none⟩ u1).setCell ⟨z,2,none⟩ u2).setCell ⟨z,3,none⟩ u3).cell? ⟨hb,1,none⟩=some v1:=by
 have key:∀j,((((w.setCell ⟨z,0,none⟩ u0).setCell ⟨z,1,none⟩ u1).setCell ⟨z,2,none⟩ u2).setCell ⟨z,3,none⟩ u3).cell? ⟨hb,j,none⟩=w.cell? ⟨hb,j,none⟩:=fun j=>
  World.cell?_of_block (a:=⟨hb,j,none⟩) (by
   show _=w.heap[hb]?
   rw [Below.heap_setCell _ _ _ _ hne,Below.heap_setCell _ _ _ _ hne,Below.heap_setCell _ _ _ _ hne,Below.heap_setCell _ _ _ _ hne])
 exact ⟨(key 0).trans e0,(key 1).trans e1⟩
theorem mid4_b (H:Hd w hb ty more p R S A t 0) (H2:Hd w2 hb ty more p R S A t 0) (hs:StepH (fun b=>b=hb) p R R w w2) (hr:Blk w2 w.heap.size 22 #[.int .i64 0,.int .i64 0,.int .i64 0,.int .i64 0])
 (hb3:Below (w2.alloc (.cells #[.int .i64 0,.int .i64 0,.int .i64 0,.int .i64 0] 22)).drew.heap.size (w2.alloc (.cells #[.int .i64 0,.int .i64 0,.int .i64 0,.int .i64 0] 22)).drew w3):
 Mid4 w hb ty more p R S A t k0 k1 k2 k3 ((((w3.setCell ⟨w2.heap.size,0,none⟩ (.int .i64 k0)).setCell ⟨w2.heap.size,1,none⟩ (.int .i64 k1)).setCell ⟨w2.heap.size,2,none⟩ (.int .i64 k2)).setCell ⟨w2.heap.size,3,none⟩ (.int .i64 k3)) w2.heap.size:=by
 have h1:=hr.lt
 have h3:=H.blk.lt
 have hm:=Mod.of_below_all hb3
 have hz:=((Blk.new w2 22 #[.int .i64 0,.int .i64 0,.int .i64 0,.int .i64 0]).drew.mod hm (fun h=>h))
 have hz4:=(((hz.set 0 (.int .i64 k0)).set 1 (.int .i64 k1)).set 2 (.int .i64 k2)).set 3 (.int .i64 k3)
 have h5:=(H2.alloc (.cells #[.int .i64 0,.int .i64 0,.int .i64 0,.int .i64 0] 22)).drew.below hb3
 have hm4:Mod (fun b=>b=w2.heap.size) w3 ((((w3.setCell ⟨w2.heap.size,0,none⟩ (.int .i64 k0)).setCell ⟨w2.heap.size,1,none⟩ (.int .i64 k1)).setCell ⟨w2.heap.size,2,none⟩ (.int .i64 k2)).setCell ⟨w2.heap.size,3,none⟩ (.int .i64 k3)):=
  ((((Mod.refl (fun b=>b=w2.heap.size) w3).set (p:=⟨w2.heap.size,0,none⟩) (fun _=>rfl) _).set (p:=⟨w2.heap.size,1,none⟩) (fun _=>rfl) _).set (p:=⟨w2.heap.size,2,none⟩) (fun _=>rfl) _).set (p:=⟨w2.heap.size,3,none⟩) (fun _=>rfl) _
 have h6:¬Own p R w2.heap.size:=fun ho=>Nat.lt_irrefl _ (H2.arm.own_lt ho)
 have h7:=hs.mod.size
 have h8:=hb3.size
 have h9:w2.heap.size<w3.heap.size:=hz.lt
 refine ⟨h5.keep hm4 (fun b hb e=>by subst e;exact h6 hb) (by omega),hz4,?_,by omega,by omega,by omega,?_⟩
 ·exact (((hr.alloc _).drew.mod hm (fun h=>h)).mod hm4 (by omega))
 ·have s1:=(hs.alloc (.cells #[.int .i64 0,.int .i64 0,.int .i64 0,.int .i64 0] 22)).drew.below hb3
  exact ⟨s1.mod.trans hm4 (fun b hb e=>by omega),s1.own⟩
theorem Mid4.set {w5:World} {qb:Nat} (h:Mid4 w hb ty more p R S A t k0 k1 k2 k3 w5 qb):Mid4 w hb ty more p R S A t k0 k1 k2 k3 (w5.setCell ⟨hb,2,none⟩ (.int .i64 0)) qb:=
 ⟨⟨h.hd.arm.far (q:=⟨hb,2,none⟩) h.hd.ne _,by rw [←handC_set p t 0 0 more];exact h.hd.blk.set 2 _,h.hd.ne,h.hd.rel,h.hd.add,h.hd.ht⟩,h.q.far (p:=⟨hb,2,none⟩) (Ne.symm h.ne2) _,h.r.far (p:=⟨hb,2,none⟩) (Ne.symm h.ne3) _,h.ne1,h.ne2,h.ne3,h.st.set (q:=⟨hb,2,none⟩) (fun _=>rfl) _⟩
theorem Mid4.fin {w5:World} {qb:Nat} (H:Hd w hb ty more p R S A t 0) (h:Mid4 w hb ty more p R S A t k0 k1 k2 k3 w5 qb) (u0 u1 u2 u3:Value):
 Blk ((((w5.setCell ⟨w.heap.size,0,none⟩ u0).setCell ⟨w.heap.size,1,none⟩ u1).setCell ⟨w.heap.size,2,none⟩ u2).setCell ⟨w.heap.size,3,none⟩ u3) w.heap.size 22 #[u0,u1,u2,u3]∧Hd ((((w5.setCell ⟨w.heap.size,0,none⟩ u0).setCell ⟨w.heap.size,1,none⟩ u1).setCell ⟨w.heap.size,2,none⟩ u2).setCell ⟨w.heap.size,3,none⟩ u3) hb ty more p R S A t 0∧StepH (fun b=>b=hb) p R R w ((((w5.setCell ⟨w.heap.size,0,none⟩ u0).setCell ⟨w.heap.size,1,none⟩ u1).setCell ⟨w.heap.size,2,none⟩ u2).setCell ⟨w.heap.size,3,none⟩ u3):=by
 have hm4:Mod (fun b=>b=w.heap.size) w5 ((((w5.setCell ⟨w.heap.size,0,none⟩ u0).setCell ⟨w.heap.size,1,none⟩ u1).setCell ⟨w.heap.size,2,none⟩ u2).setCell ⟨w.heap.size,3,none⟩ u3):=
  ((((Mod.refl (fun b=>b=w.heap.size) w5).set (p:=⟨w.heap.size,0,none⟩) (fun _=>rfl) _).set (p:=⟨w.heap.size,1,none⟩) (fun _=>rfl) _).set (p:=⟨w.heap.size,2,none⟩) (fun _=>rfl) _).set (p:=⟨w.heap.size,3,none⟩) (fun _=>rfl) _
 have h6:¬Own p R w.heap.size:=fun ho=>Nat.lt_irrefl _ (H.arm.own_lt ho)
 exact ⟨(((h.r.set 0 u0).set 1 u1).set 2 u2).set 3 u3,h.hd.keep hm4 (fun b hb e=>by subst e;exact h6 hb) h.ne3,h.st.mod.trans hm4 (fun b hb e=>by omega),h.st.own⟩
end
set_option maxRecDepth 100000 in
set_option maxHeartbeats 3200000 in
theorem hkids_any (w:World) (hb:Nat) (ty:TypeId) (more:List Value) (p:Nat) (R:ArR) (S:ArS) (A:Nat→Abs) (t:Nat) (bad:Int) (h:Hd w hb ty more p R S A t bad)
 (id:Int) (a b c d:Tree) (hq:bad=0→Has S A t id (.node a b c d)):
 Calls Tryz.prog 154 #[.pointer (some ⟨hb,0,none⟩),.int .i64 id] w (KidsPost w hb ty more p R S A t bad a b c d):=by
 have H2:=Lib.hid (h.alloc (.cells #[.int .i64 0,.int .i64 0,.int .i64 0,.int .i64 0] 22))
 have HS2:Hid (StepH (fun b=>b=hb) p R R w (w.alloc (.cells #[.int .i64 0,.int .i64 0,.int .i64 0,.int .i64 0] 22))):=(StepH.refl _ p R w).alloc _
 have HB2:=Lib.hid (Blk.new w 22 #[.int .i64 0,.int .i64 0,.int .i64 0,.int .i64 0])
 have H:=Lib.hid h
 have c2:=H2.out.c2
 clear h
 by_cases hb0:bad=0
 ·subst hb0
  have HQ0:=Lib.hid (hq rfl)
  clear hq
  go_enter Tryz.func154,Tryz.ntmps154
  go_wp2_with fail
  clear c2
  generalize World.alloc w _=w2 at H2 HS2 HB2 ⊢
  have c0:=H2.out.c0
  have c1:=H2.out.c1
  have HK:=Lib.hid (fun W hA=>kids_any W p R S hA H2.out.inv.len t H2.out.ht id)
  have HLT:=Lib.hid H2.out.blk.lt
  have HNE:Hid (hb≠w2.heap.size):=by have:=HLT.out;show hb≠w2.heap.size;omega
  go_region_held3 (fun w'=>w'.cell? ⟨hb,0,none⟩=some (.pointer (some ⟨p,0,none⟩))∧w'.cell? ⟨hb,1,none⟩=some (.int .i64 t))
   (first | (with_reducible exact ⟨c0,c1⟩) | (with_reducible exact ⟨e0,e1⟩) | (with_reducible exact keep_w4 HNE.out e0 e1 _ _ _ _) | go_keep)
   (first
     | (go_at_call 191;refine (HK.out _ (by exact H2.out.arm.drew)).mono ?_;rintro e w3 ⟨hk,hb3⟩;obtain ⟨k0,k1,k2,k3,rfl,h0,h1,h2,h3⟩:=kids_has H2.out.rel H2.out.ht HQ0.out hk;have e0:=(hb3.cell (p:=⟨hb,0,none⟩) HLT.out).trans c0;have e1:=(hb3.cell (p:=⟨hb,1,none⟩) HLT.out).trans c1;have HM:=Lib.hid (mid4_a (k0:=k0) (k1:=k1) (k2:=k2) (k3:=k3) H.out H2.out HS2.out HB2.out hb3))
     | (go_at_call 191;refine (HK.out _ (by exact (H2.out.arm.alloc _).drew)).mono ?_;rintro e w3 ⟨hk,hb3⟩;obtain ⟨k0,k1,k2,k3,rfl,h0,h1,h2,h3⟩:=kids_has H2.out.rel H2.out.ht HQ0.out hk;have hlt1:(⟨hb,0,none⟩:Addr).block<(w2.alloc (.cells #[.int .i64 0,.int .i64 0,.int .i64 0,.int .i64 0] 22)).drew.heap.size:=(H2.out.alloc _).blk.lt;have e0:=(hb3.cell (p:=⟨hb,0,none⟩) hlt1).trans ((World.cell?_alloc_lt w2 _ ⟨hb,0,none⟩ HLT.out).trans c0);have e1:=(hb3.cell (p:=⟨hb,1,none⟩) hlt1).trans ((World.cell?_alloc_lt w2 _ ⟨hb,1,none⟩ HLT.out).trans c1);have HM:=Lib.hid (mid4_b (k0:=k0) (k1:=k1) (k2:=k2) (k3:=k3) H.out H2.out HS2.out HB2.out hb3);have HZ:=Lib.hid ((Blk.new w2 22 #[.int .i64 0,.int .i64 0,.int .i64 0,.int .i64 0]).drew.mod (Mod.of_below_all hb3) (fun h=>h));have z0:=HZ.out.cellS (i:=0) rfl;have z1:=HZ.out.cellS (i:=1) rfl;have z2:=HZ.out.cellS (i:=2) rfl;have z3:=HZ.out.cellS (i:=3) rfl;have f0:=HZ.out.frozen 0;have f1:=HZ.out.frozen 1;have f2:=HZ.out.frozen 2;have f3:=HZ.out.frozen 3))
  all_goals clear c0 c1 e0 e1 hk HK HLT HNE H2 HS2 HB2
  all_goals (first
   | (clear z0 z1 z2 z3 f0 f1 f2 f3 HZ
      generalize World.setCell _ _ _=w5 at HM ⊢
      generalize w2.heap.size=qb at HM ⊢)
   | (generalize World.alloc w3 _=w5 at HM ⊢
      generalize w3.heap.size=qb at HM ⊢))
  all_goals (
   have c2:=HM.out.hd.c2
   have f2:=HM.out.hd.f 2
   have HM6:=Lib.hid HM.out.set
   have q0:=HM6.out.q.cellS (i:=0) rfl
   have q1:=HM6.out.q.cellS (i:=1) rfl
   have q2:=HM6.out.q.cellS (i:=2) rfl
   have q3:=HM6.out.q.cellS (i:=3) rfl
   have r0:=HM6.out.r.cellS (i:=0) rfl
   have r1:=HM6.out.r.cellS (i:=1) rfl
   have r2:=HM6.out.r.cellS (i:=2) rfl
   have r3:=HM6.out.r.cellS (i:=3) rfl
   have g0:=HM6.out.r.frozen 0
   have g1:=HM6.out.r.frozen 1
   have g2:=HM6.out.r.frozen 2
   have g3:=HM6.out.r.frozen 3
   have HF:=Lib.hid (HM6.out.fin H.out (.int .i64 k0) (.int .i64 k1) (.int .i64 k2) (.int .i64 k3))
   have H01:Hid (Has S A t k0 a∧Has S A t k1 b∧Has S A t k2 c∧Has S A t k3 d):=⟨h0,h1,h2,h3⟩
   clear h0 h1 h2 h3
   go_wp2_with fail
   clear c2 f2 q0 q1 q2 q3 r0 r1 r2 r3 g0 g1 g2 g3 HM6
   generalize World.setCell _ _ _=w7 at HF ⊢
   have s0:w7.cell? ⟨w.heap.size,0,none⟩=some (.int .i64 k0):=HF.out.1.cellS (i:=0) rfl
   have s1:w7.cell? ⟨w.heap.size,1,none⟩=some (.int .i64 k1):=HF.out.1.cellS (i:=1) rfl
   have s2:w7.cell? ⟨w.heap.size,2,none⟩=some (.int .i64 k2):=HF.out.1.cellS (i:=2) rfl
   have s3:w7.cell? ⟨w.heap.size,3,none⟩=some (.int .i64 k3):=HF.out.1.cellS (i:=3) rfl
   exact bodyPost_ret (v:= .agg #[.int .i64 k0,.int .i64 k1,.int .i64 k2,.int .i64 k3]) (by simp [results,Tryz.results154,go_sem,s0,s1,s2,s3]) rfl ⟨k0,k1,k2,k3,rfl,fun _=>H01.out,fun e=>absurd rfl e,HF.out.2.1,HF.out.2.2⟩)
 ·have hb1:(bad==0)=false:=beq_eq_false_iff_ne.2 hb0
  have HB0:=Lib.hid hb0
  clear hb0 hq
  go_enter Tryz.func154,Tryz.ntmps154
  go_wp2_with fail
  go_returns
  exact ⟨0,0,0,0,rfl,fun e=>absurd e HB0.out,fun _=>⟨rfl,rfl,rfl,rfl⟩,H2.out,HS2.out⟩
end Go.Proofs.YthohnjgnpapnoaaGreatDoor
namespace Go.Proofs.YthohnjgnpapnoaaGreatDoor
open Go.RowKit
def Pf:Nat→Tree→Prop
 | 0,T=>T= .dead∨T= .alive
 | n+1,T=>∃a b c d,T= .node a b c d∧Pf n a∧Pf n b∧Pf n c∧Pf n d
theorem Pf.lvl:∀{n:Nat} {T:Tree},Pf n T→T.lvl=n
 | 0,T,h=>by rcases h with rfl | rfl<;>rfl
 | n+1,T,h=>by
   obtain ⟨a,b,c,d,rfl,ha,_⟩:=h
   simp only [Tree.lvl];rw [ha.lvl];omega
theorem Pf.kid {n:Nat} {T:Tree} (h:Pf (n+1) T) (k:Nat):Pf n (T.kid k):=by
 obtain ⟨a,b,c,d,rfl,ha,hb,hc,hd⟩:=h
 simp only [Tree.kid]
 split
 ·exact ha
 ·split
  ·exact hb
  ·split
   ·exact hc
   ·exact hd
theorem Pf.eta {n:Nat} {T:Tree} (h:Pf (n+1) T):T= .node (T.kid 0) (T.kid 1) (T.kid 2) (T.kid 3):=by
 obtain ⟨a,b,c,d,rfl,_⟩:=h;rfl
theorem Pf.g {n:Nat} {T:Tree} (h:Pf (n+2) T) (y x:Nat):Pf n (gT T y x):=(Pf.kid (n:=n+1) h _).kid _
theorem Pf.four {n:Nat} {N:Nat→Nat→Tree} {y x:Nat} (h:∀y x,Pf n (N y x)):Pf (n+1) (fourT N y x):=⟨_,_,_,_,rfl,h _ _,h _ _,h _ _,h _ _⟩
theorem Pf.mid {n:Nat} {T:Tree} (h:Pf (n+2) T):Pf (n+1) (midT T):=Pf.four h.g
theorem live_pf (b l:Int) (g:Nat→Nat→Tree) (y x:Nat):Pf 0 (liveT b l g y x):=by
 unfold liveT
 generalize bitB _ _=q
 cases q
 ·exact .inl rfl
 ·exact .inr rfl
theorem Pf.res {b l:Int}:∀{n:Nat} {T:Tree} {j:Int},Pf (n+2) T→Pf (n+1) (resT b l n T j)
 | 0,T,j,_=>⟨_,_,_,_,rfl,live_pf ..,live_pf ..,live_pf ..,live_pf ..⟩
 | n+1,T,j,h=>by
   rw [resT]
   refine Pf.four fun y x=>Pf.res (Pf.four fun y x=>?_)
   split
   ·exact Pf.res (Pf.four h.g)
   ·exact Pf.mid (Pf.four h.g)
theorem treeOf_pf (P:Int→Int→Bool):∀(n:Nat) (x y:Int),Pf n (treeOf P n x y)
 | 0,x,y=>by
   simp only [treeOf];split
   ·exact .inr rfl
   ·exact .inl rfl
 | n+1,x,y=>⟨_,_,_,_,rfl,treeOf_pf P n _ _,treeOf_pf P n _ _,treeOf_pf P n _ _,treeOf_pf P n _ _⟩
def oneP (P:Int→Int→Bool) (x y:Int):Int:=if P x y then 1 else 0
def nearP (P:Int→Int→Bool) (x y:Int):Int:=
 oneP P (x-1) (y-1)+oneP P x (y-1)+oneP P (x+1) (y-1)+oneP P (x-1) y+oneP P (x+1) y+oneP P (x-1) (y+1)+oneP P x (y+1)+oneP P (x+1) (y+1)
def ev (b l:Int) (P:Int→Int→Bool) (x y:Int):Bool:=bitB (if P x y then l else b) (nearP P x y).toNat
def evN (b l:Int):Nat→(Int→Int→Bool)→Int→Int→Bool
 | 0,P=>P
 | n+1,P=>ev b l (evN b l n P)
theorem evN_add (b l:Int) (P:Int→Int→Bool) (m:Nat):∀n,evN b l n (evN b l m P)=evN b l (m+n) P
 | 0=>rfl
 | n+1=>by rw [evN,evN_add b l P m n];rfl
theorem gT_of (P:Int→Int→Bool) (n:Nat) (x y:Int) {r c:Nat} (hr:r<4) (hc:c<4):gT (treeOf P (n+2) x y) r c=treeOf P n (x+c*2^n) (y+r*2^n):=by
 have e1:r=0∨r=1∨r=2∨r=3:=by omega
 have e2:c=0∨c=1∨c=2∨c=3:=by omega
 have h:(2:Int)^(n+1)=2^n*2:=Int.pow_succ 2 n
 unfold gT
 simp only [treeOf]
 rw [h]
 rcases e1 with rfl | rfl | rfl | rfl<;>rcases e2 with rfl | rfl | rfl | rfl<;>simp [Tree.kid]<;>congr 1<;>omega
theorem fourT_of {N:Nat→Nat→Tree} {P:Int→Int→Bool} {n:Nat} {x y:Int} {r c:Nat} (h:∀r' c',r'≤r+1→c'≤c+1→N r' c'=treeOf P n (x+c'*2^n) (y+r'*2^n)):
 fourT N r c=treeOf P (n+1) (x+c*2^n) (y+r*2^n):=by
 unfold fourT
 rw [h r c (by omega) (by omega),h r (c+1) (by omega) (by omega),h (r+1) c (by omega) (by omega),h (r+1) (c+1) (by omega) (by omega)]
 simp only [treeOf]
 have e:∀k:Nat,((k+1:Nat):Int)*2^n=k*2^n+2^n:=fun k=>by rw [Int.natCast_add,Int.add_mul];simp
 rw [e,e,←Int.add_assoc,←Int.add_assoc]
theorem small_of (b l:Int) (P:Int→Int→Bool) (x y:Int):smallT b l (gT (treeOf P 2 x y))=treeOf (ev b l P) 1 (x+1) (y+1):=by
 have one:∀r c:Nat,r<4→c<4→gT (treeOf P 2 x y) r c=treeOf P 0 (x+c) (y+r):=fun r c hr hc=>by
  have:=gT_of P 0 x y hr hc
  simpa using this
 have ho:∀(a d:Int),oneT (treeOf P 0 a d)=oneP P a d:=fun a d=>by
  by_cases h:P a d=true<;>simp [oneT,oneP,treeOf,h]
 have ha:∀(a d:Int),aliveB (treeOf P 0 a d)=P a d:=fun a d=>by
  by_cases h:P a d=true<;>simp [aliveB,treeOf,h]
 have key:∀r c:Nat,r<2→c<2→liveT b l (gT (treeOf P 2 x y)) r c=treeOf (ev b l P) 0 (x+1+c) (y+1+r):=fun r c hr hc=>by
  unfold liveT nearT
  rw [one (r+1) (c+1) (by omega) (by omega),one r c (by omega) (by omega),one r (c+1) (by omega) (by omega),one r (c+2) (by omega) (by omega),one (r+1) c (by omega) (by omega),one (r+1) (c+2) (by omega) (by omega),
   one (r+2) c (by omega) (by omega),one (r+2) (c+1) (by omega) (by omega),one (r+2) (c+2) (by omega) (by omega)]
  simp only [ho,ha]
  rw [treeOf]
  unfold ev nearP
  have e1:x+((c+1:Nat):Int)=x+1+c:=by omega
  have e2:y+((r+1:Nat):Int)=y+1+r:=by omega
  have e3:x+((c+2:Nat):Int)=x+1+c+1:=by omega
  have e4:y+((r+2:Nat):Int)=y+1+r+1:=by omega
  have e5:x+(c:Int)=x+1+c-1:=by omega
  have e6:y+(r:Int)=y+1+r-1:=by omega
  rw [e1,e2,e3,e4,e5,e6]
 unfold smallT
 rw [key 0 0 (by decide) (by decide),key 0 1 (by decide) (by decide),key 1 0 (by decide) (by decide),key 1 1 (by decide) (by decide)]
 simp only [treeOf]
 simp
theorem resT_of (b l:Int):∀(n:Nat) (P:Int→Int→Bool) (x y:Int) (j:Nat),j≤n→resT b l n (treeOf P (n+2) x y) (j:Int)=treeOf (evN b l (2^j) P) (n+1) (x+2^n) (y+2^n)
 | 0,P,x,y,j,hj=>by
   obtain rfl:j=0:=by omega
   rw [resT,small_of]
   simp [evN]
 | n+1,P,x,y,j,hj=>by
   have h2:(2:Int)^(n+1)=2^n+2^n:=by rw [Int.pow_succ];omega
   have hs:∀r c:Nat,r≤2→c≤2→fourT (gT (treeOf P (n+3) x y)) r c=treeOf P (n+2) (x+c*2^(n+1)) (y+r*2^(n+1)):=fun r c hr hc=>
    fourT_of fun r' c' hr' hc'=>gT_of P (n+1) x y (by omega) (by omega)
   have hm:∀(Q:Int→Int→Bool) (a d:Int),midT (treeOf Q (n+2) a d)=treeOf Q (n+1) (a+2^n) (d+2^n):=fun Q a d=>by
    unfold midT
    have:=fourT_of (N:=gT (treeOf Q (n+2) a d)) (P:=Q) (n:=n) (x:=a) (y:=d) (r:=1) (c:=1) fun r' c' hr' hc'=>gT_of Q n a d (by omega) (by omega)
    simpa using this
   rw [resT]
   by_cases hf:j=n+1
   ·have hf':((j:Nat):Int)=((n+1:Nat):Int):=by omega
    rw [if_pos hf']
    have hj1:(j:Int)-1=((j-1:Nat):Int):=by omega
    rw [hj1]
    have hN:∀r c:Nat,r≤2→c≤2→(if (j:Int)=((n+1:Nat):Int) then resT b l n (fourT (gT (treeOf P (n+3) x y)) r c) ((j-1:Nat):Int) else midT (fourT (gT (treeOf P (n+3) x y)) r c))=treeOf (evN b l (2^(j-1)) P) (n+1) (x+2^n+c*2^(n+1)) (y+2^n+r*2^(n+1)):=fun r c hr hc=>by
     rw [if_pos hf',hs r c hr hc,resT_of b l n P _ _ (j-1) (by omega)]
     congr 1<;>omega
    have hq:∀r c:Nat,r≤1→c≤1→resT b l n (fourT (fun y_1 x_1=>if (j:Int)=((n+1:Nat):Int) then resT b l n (fourT (gT (treeOf P (n+3) x y)) y_1 x_1) ((j-1:Nat):Int) else midT (fourT (gT (treeOf P (n+3) x y)) y_1 x_1)) r c) ((j-1:Nat):Int)=treeOf (evN b l (2^j) P) (n+1) (x+2^(n+1)+c*2^(n+1)) (y+2^(n+1)+r*2^(n+1)):=fun r c hr hc=>by
     rw [fourT_of (P:=evN b l (2^(j-1)) P) (n:=n+1) (x:=x+2^n) (y:=y+2^n) fun r' c' hr' hc'=>hN r' c' (by omega) (by omega)]
     rw [resT_of b l n _ _ _ (j-1) (by omega),evN_add]
     have e:2^(j-1)+2^(j-1)=2^j:=by
      obtain ⟨k,rfl⟩:∃k,j=k+1:=⟨j-1,by omega⟩
      rw [Nat.pow_succ];simp;omega
     rw [e]
     congr 1<;>omega
    have:=fourT_of (P:=evN b l (2^j) P) (n:=n+1) (x:=x+2^(n+1)) (y:=y+2^(n+1)) (r:=0) (c:=0) fun r' c' hr' hc'=>hq r' c' (by omega) (by omega)
    simpa using this
   ·have hf':¬((j:Nat):Int)=((n+1:Nat):Int):=by omega
    rw [if_neg hf']
    have hN:∀r c:Nat,r≤2→c≤2→(if (j:Int)=((n+1:Nat):Int) then resT b l n (fourT (gT (treeOf P (n+3) x y)) r c) ((j:Int)-1) else midT (fourT (gT (treeOf P (n+3) x y)) r c))=treeOf P (n+1) (x+2^n+c*2^(n+1)) (y+2^n+r*2^(n+1)):=fun r c hr hc=>by
     rw [if_neg hf',hs r c hr hc,hm]
     congr 1<;>omega
    have hq:∀r c:Nat,r≤1→c≤1→resT b l n (fourT (fun y_1 x_1=>if (j:Int)=((n+1:Nat):Int) then resT b l n (fourT (gT (treeOf P (n+3) x y)) y_1 x_1) ((j:Int)-1) else midT (fourT (gT (treeOf P (n+3) x y)) y_1 x_1)) r c) (j:Int)=treeOf (evN b l (2^j) P) (n+1) (x+2^(n+1)+c*2^(n+1)) (y+2^(n+1)+r*2^(n+1)):=fun r c hr hc=>by
     rw [fourT_of (P:=P) (n:=n+1) (x:=x+2^n) (y:=y+2^n) fun r' c' hr' hc'=>hN r' c' (by omega) (by omega)]
     rw [resT_of b l n _ _ _ j (by omega)]
     congr 1<;>omega
    have:=fourT_of (P:=evN b l (2^j) P) (n:=n+1) (x:=x+2^(n+1)) (y:=y+2^(n+1)) (r:=0) (c:=0) fun r' c' hr' hc'=>hq r' c' (by omega) (by omega)
    simpa using this
end Go.Proofs.YthohnjgnpapnoaaGreatDoor
namespace Go.Proofs.YthohnjgnpapnoaaGreatDoor
open Go.RowKit
theorem i64_and1 (x:Int) (h0:0≤x) (h1:x<9223372036854775808):bits .and .i64 x 1=x%2:=
 bits_mask .i64 63 (by decide) (fun n a b=>by rw [IntKind.wrap_i64];omega) 1 (by decide) x h0 h1
def goodR (b l:Int):Prop:=(0≤b∧b<512)∧(0≤l∧l<512)∧b%2=0
set_option maxRecDepth 100000 in
theorem good_true (w:World) (b l:Int) (h:goodR b l):
 Calls Tryz.prog 103 #[.agg #[.int .i64 b,.int .i64 l]] w fun e w'=>e= .returned (.bool true)∧Below w.heap.size w w':=by
 obtain ⟨⟨h1,h2⟩,⟨h3,h4⟩,h5⟩:=h
 have ha:=i64_and1 b h1 (by omega)
 rw [h5] at ha
 clear h5
 go_enter Tryz.func103,Tryz.ntmps103
 go_wp2
 go_ret
 exact ⟨rfl,(Below.refl _ _).alloc (Nat.le_refl _) _⟩
set_option maxRecDepth 100000 in
theorem good_false (w:World) (b l:Int) (hb: -9223372036854775808≤b∧b≤9223372036854775807) (h:¬goodR b l):
 Calls Tryz.prog 103 #[.agg #[.int .i64 b,.int .i64 l]] w fun e w'=>e= .returned (.bool false)∧Below w.heap.size w w':=by
 obtain ⟨hb1,hb2⟩:=hb
 unfold goodR at h
 by_cases h1:0≤b
 ·by_cases h2:b<512
  ·by_cases h3:0≤l
   ·by_cases h4:l<512
    ·have h5:b%2=1:=by
      rcases Int.emod_two_eq b with e | e
      ·exact absurd ⟨⟨h1,h2⟩,⟨h3,h4⟩,e⟩ h
      ·exact e
     have ha:=i64_and1 b h1 (by omega)
     rw [h5] at ha
     clear h5 h
     go_enter Tryz.func103,Tryz.ntmps103
     go_wp2
     go_ret
     exact ⟨rfl,(Below.refl _ _).alloc (Nat.le_refl _) _⟩
    ·clear h
     go_enter Tryz.func103,Tryz.ntmps103
     go_wp2
     go_ret
     exact ⟨rfl,(Below.refl _ _).alloc (Nat.le_refl _) _⟩
   ·clear h
    go_enter Tryz.func103,Tryz.ntmps103
    go_wp2
    go_ret
    exact ⟨rfl,(Below.refl _ _).alloc (Nat.le_refl _) _⟩
  ·clear h
   go_enter Tryz.func103,Tryz.ntmps103
   go_wp2
   go_ret
   exact ⟨rfl,(Below.refl _ _).alloc (Nat.le_refl _) _⟩
 ·clear h
  go_enter Tryz.func103,Tryz.ntmps103
  go_wp2
  go_ret
  exact ⟨rfl,(Below.refl _ _).alloc (Nat.le_refl _) _⟩
theorem bit_ret (b:Int) (n:Nat) (h0:0≤b) (h1:b<512):(bits .and .i64 (b/2^n) 1==1)=(b/2^n%2==1):=by
 have e1:0≤b/2^n:=Int.ediv_nonneg h0 (by exact_mod_cast Nat.zero_le _)
 have e2:b/2^n≤b:=Int.ediv_le_self _ h0
 rw [i64_and1 _ e1 (by omega)]
end Go.Proofs.YthohnjgnpapnoaaGreatDoor
namespace Go.Proofs.YthohnjgnpapnoaaGreatDoor
open Go.RowKit
set_option maxRecDepth 100000 in
theorem lives_any (w:World) (b l:Int) (hb:0≤b∧b<512) (hl:0≤l∧l<512) (alive:Bool) (n:Nat) (hn:n≤8):
 Calls Tryz.prog 225 #[.agg #[.int .i64 b,.int .i64 l],.bool alive,.int .i64 n] w fun e w'=>e= .returned (.bool (bitB (if alive then l else b) n))∧Below w.heap.size w w':=by
 obtain ⟨b1,b2⟩:=hb
 obtain ⟨l1,l2⟩:=hl
 have hn':(n:Int)≤8:=by omega
 clear hn
 cases alive
 ·go_enter Tryz.func225,Tryz.ntmps225
  go_wp2
  go_ret
  exact ⟨congrArg (fun x=>Ending.returned (.bool x)) (bit_ret b n b1 b2),(Below.refl _ _).alloc (Nat.le_refl _) _⟩
 ·go_enter Tryz.func225,Tryz.ntmps225
  go_wp2
  go_ret
  exact ⟨congrArg (fun x=>Ending.returned (.bool x)) (bit_ret l n l1 l2),(Below.refl _ _).alloc (Nat.le_refl _) _⟩
end Go.Proofs.YthohnjgnpapnoaaGreatDoor
namespace Go.Proofs.YthohnjgnpapnoaaGreatDoor
open Go.RowKit
structure Grew (t:Nat) (C:List Thing→Prop) (S:ArS) (A:Nat→Abs) (bad:Int) (S':ArS) (A':Nat→Abs) (bad':Int):Prop where
 st:St t S A S' A'
 ok:bad'=0→bad=0
 code:bad'=bad∨bad=0∧(bad'=9∨bad'=5)
 enough:∀V,Within S V→C V→(V.length:Int)<S.room→(V.length:Int)<S.quota t→bad'=bad∧Within S' V∧Stays (fun _=>True) S S'
 least:∀V:List Thing,(∀x∈(A t).have_,x∈V)→C V→∀x∈(A' t).have_,x∈V
 quit:bad=0→bad'=9→∀V:List Thing,(∀x∈(A t).have_,x∈V)→C V→S.quota t<(V.length:Int)
 le:S.count t≤S.quota t→S'.count t≤S'.quota t
 roomy:Roomy S A t→bad'=bad∨bad'=9
section
variable {S S' S1 S2 : ArS} {A A' A1 A2 : Nat → Abs} {t : Nat} {C C' : List Thing → Prop} {L : List Thing} {bad bad' bad1 bad2 : Int}
theorem Grew.refl (h:Rel S A) (t:Nat) (C:List Thing→Prop) (bad:Int):Grew t C S A bad S A bad:=
 ⟨St.refl h t,id,.inl rfl,fun _ hV _ _ _=>⟨rfl,hV,Stays.refl _ S⟩,fun _ h1 _=>h1,fun e e'=>absurd (e.symm.trans e') (by decide),id,fun _=> .inl rfl⟩
theorem Grew.trans (h:Grew t C S A bad S1 A1 bad1) (k:Grew t C S1 A1 bad1 S2 A2 bad2):Grew t C S A bad S2 A2 bad2:=by
 refine ⟨h.st.trans k.st,fun e=>h.ok (k.ok e),?_,fun V hV hC hr hq=>?_,fun V h1 h2=>k.least V (h.least V h1 h2) h2,fun e e' V h1 h2=>?_,fun e=>k.le (h.le e),fun hr=>?_⟩
 ·rcases k.code with e | ⟨e,e'⟩
  ·rw [e];exact h.code
  ·exact .inr ⟨h.ok e,e'⟩
 ·obtain ⟨a1,a2,a3⟩:=h.enough V hV hC hr hq
  obtain ⟨b1,b2,b3⟩:=k.enough V a2 hC (by rw [h.st.room];exact hr) (by rw [h.st.quota];exact hq)
  exact ⟨b1.trans a1,b2,a3.trans b3⟩
 ·by_cases e1:bad1=0
  ·have:=k.quit e1 e' V (h.least V h1 h2) h2
   rw [h.st.quota] at this;exact this
  ·rcases k.code with c | ⟨c,_⟩
   ·exact h.quit e (c.symm.trans e') V h1 h2
   ·exact absurd c e1
 ·rcases k.roomy (h.st.roomy hr) with c | c
  ·rw [c];exact h.roomy hr
  ·exact .inr c
theorem Grew.mono (h:Grew t C S A bad S' A' bad') (hC:∀V,C' V→C V):Grew t C' S A bad S' A' bad':=
 ⟨h.st,h.ok,h.code,fun V hV hc=>h.enough V hV (hC V hc),fun V h1 h2=>h.least V h1 (hC V h2),fun e e' V h1 h2=>h.quit e e' V h1 (hC V h2),h.le,h.roomy⟩
theorem Made.grew (h:Made t L S A bad S' A' bad'):Grew t (fun V=>∀x∈L,x∈V) S A bad S' A' bad':=
 ⟨h.st,fun e=>(h.ok e).1,h.code,h.enough,h.least,h.quit,h.le,h.roomy⟩
theorem Grew.none (h:Rel S A) (t:Nat) (C:List Thing→Prop) (bad:Int):Grew t C S A bad S A bad:=Grew.refl h t C bad
end
def lpC (p t:Nat) (b l bad:Int):Array Value:=#[.pointer (some ⟨p,0,none⟩),.int .i64 t,.int .i64 b,.int .i64 l,.int .i64 bad]
theorem lpC_set (p t:Nat) (b l bad x:Int):(lpC p t b l bad).setIfInBounds 4 (.int .i64 x)=lpC p t b l x:=by
 unfold lpC;simp
structure Lp (w:World) (hb p:Nat) (R:ArR) (S:ArS) (A:Nat→Abs) (t:Nat) (b l bad:Int):Prop where
 arm:ArM w p R S
 blk:Blk w hb 280 (lpC p t b l bad)
 ne:¬Own p R hb
 rel:Rel S A
 add:∀u,u<64→((S.added u).length:Int)≤S.count u
 ht:t<64
section
variable {p hb t : Nat} {R R1 R' : ArR} {w w1 w' : World} {S S' : ArS} {A A' : Nat → Abs} {b l bad bad' : Int}
theorem Lp.inv (h:Lp w hb p R S A t b l bad):Inv S:=h.rel.inv
theorem Lp.few (h:Lp w hb p R S A t b l bad):(S.added t).length≤1000000:=by
 have:=h.add t h.ht
 have:=h.rel.inv.cnt_le h.ht
 omega
theorem Lp.keep {T:Nat→Prop} (h:Lp w hb p R S A t b l bad) (hm:Mod T w w') (h1:∀b,Own p R b→¬T b) (h2:¬T hb):Lp w' hb p R S A t b l bad:=
 ⟨h.arm.keep hm h1,h.blk.mod hm h2,h.ne,h.rel,h.add,h.ht⟩
theorem Lp.below (h:Lp w hb p R S A t b l bad) (hb':Below w.heap.size w w'):Lp w' hb p R S A t b l bad:=
 ⟨h.arm.below hb',h.blk.mod (Mod.of_below_all hb') (fun h=>h),h.ne,h.rel,h.add,h.ht⟩
theorem Lp.drew (h:Lp w hb p R S A t b l bad):Lp w.drew hb p R S A t b l bad:=⟨h.arm.drew,h.blk,h.ne,h.rel,h.add,h.ht⟩
theorem Lp.drewN (h:Lp w hb p R S A t b l bad) (n:Nat):Lp (w.drewN n) hb p R S A t b l bad:=⟨h.arm.drewN n,h.blk,h.ne,h.rel,h.add,h.ht⟩
theorem Lp.alloc (h:Lp w hb p R S A t b l bad) (o:Obj):Lp (w.alloc o) hb p R S A t b l bad:=h.below ((Below.refl _ _).alloc (Nat.le_refl _) _)
theorem Lp.c0 (h:Lp w hb p R S A t b l bad):w.cell? ⟨hb,0,none⟩=some (.pointer (some ⟨p,0,none⟩)):=h.blk.cellS rfl
theorem Lp.c1 (h:Lp w hb p R S A t b l bad):w.cell? ⟨hb,1,none⟩=some (.int .i64 t):=h.blk.cellS rfl
theorem Lp.c2 (h:Lp w hb p R S A t b l bad):w.cell? ⟨hb,2,none⟩=some (.int .i64 b):=h.blk.cellS rfl
theorem Lp.c3 (h:Lp w hb p R S A t b l bad):w.cell? ⟨hb,3,none⟩=some (.int .i64 l):=h.blk.cellS rfl
theorem Lp.c4 (h:Lp w hb p R S A t b l bad):w.cell? ⟨hb,4,none⟩=some (.int .i64 bad):=h.blk.cellS rfl
theorem Lp.f (h:Lp w hb p R S A t b l bad) (j:Nat):w.frozen? ⟨hb,j,none⟩=false:=h.blk.frozen j
theorem Lp.arena (h:Lp w hb p R S A t b l bad) (ha:ArM w1 p R1 S') (hs:Step p R R1 w w1) (hst:St t S A S' A'):Lp w1 hb p R1 S' A' t b l bad:=
 ⟨ha,h.blk.mod hs.mod h.ne,(hs.toH (fun _=>False)).not h.blk.lt h.ne,hst.rel,hst.add h.add,h.ht⟩
theorem Lp.set (h:Lp w hb p R S A t b l bad) (x:Int):Lp (w.setCell ⟨hb,4,none⟩ (.int .i64 x)) hb p R S A t b l x:=by
 refine ⟨h.arm.far (q:=⟨hb,4,none⟩) h.ne _,?_,h.ne,h.rel,h.add,h.ht⟩
 rw [←lpC_set p t b l bad x]
 exact h.blk.set 4 _
theorem StepH.keepX {X:Nat→Prop} (h:StepH X p R R' w w') {b:Nat} {ty:TypeId} {cs:Array Value} (hb:Blk w b ty cs) (ho:¬Own p R b) (hx:¬X b):Blk w' b ty cs:=
 hb.mod h.mod fun q=>q.elim ho hx
theorem Step.hX (h:Step p R R' w w') {X:Nat→Prop}:StepH X p R R' w w':=h.toH X
end
set_option maxRecDepth 100000 in
theorem lfail_any (w:World) (hb p:Nat) (R:ArR) (S:ArS) (A:Nat→Abs) (t:Nat) (b l bad x:Int) (h:Lp w hb p R S A t b l bad):
 Calls Tryz.prog 217 #[.pointer (some ⟨hb,0,none⟩),.int .i64 x] w fun e w'=>e= .returned (.tuple #[])∧Lp w' hb p R S A t b l (if bad=0 then x else bad)∧StepH (fun b=>b=hb) p R R w w'∧w'.heap.size=w.heap.size:=by
 have H:=Lib.hid h
 have c4:=h.c4
 have f4:=h.f 4
 clear h
 by_cases hb0:bad=0
 ·subst hb0
  go_enter Tryz.func217,Tryz.ntmps217
  go_wp2_with fail
  go_returns
  exact ⟨rfl,H.out.set x,(StepH.refl (fun b=>b=hb) p R w).set (q:=⟨hb,4,none⟩) (fun _=>rfl) _,by simp [World.setCell]⟩
 ·have hb1:(bad==0)=false:=beq_eq_false_iff_ne.2 hb0
  have HB0:=Lib.hid hb0
  clear hb0
  go_enter Tryz.func217,Tryz.ntmps217
  go_wp2_with fail
  go_returns
  exact ⟨rfl,H.out,StepH.refl _ p R w,rfl⟩
def LpPost (w:World) (hb p:Nat) (R:ArR) (S:ArS) (A:Nat→Abs) (t:Nat) (b l bad:Int) (T:Tree) (C:List Thing→Prop) (e:Ending) (w':World):Prop:=
 ∃(r:Int) (S':ArS) (A':Nat→Abs) (R':ArR) (bad':Int),e= .returned (.int .i64 r)∧Grew t C S A bad S' A' bad'∧(bad'=0→Has S' A' t r T)∧Lp w' hb p R' S' A' t b l bad'∧StepH (fun b=>b=hb) p R R' w w'
set_option maxRecDepth 100000 in
set_option maxHeartbeats 3200000 in
theorem ljoin_any (w:World) (hb p:Nat) (R:ArR) (S:ArS) (A:Nat→Abs) (t:Nat) (b l bad:Int) (h:Lp w hb p R S A t b l bad)
 (q0 q1 q2 q3:Int) (a0 a1 a2 a3:Tree) (n:Int) (hq:bad=0→Has S A t q0 a0∧Has S A t q1 a1∧Has S A t q2 a2∧Has S A t q3 a3) (hl:a0.lvl=n∧a1.lvl=n∧a2.lvl=n∧a3.lvl=n) (hn:n<44):
 Calls Tryz.prog 226 #[.pointer (some ⟨hb,0,none⟩),.int .i64 q0,.int .i64 q1,.int .i64 q2,.int .i64 q3] w (LpPost w hb p R S A t b l bad (.node a0 a1 a2 a3) (fun V=>Thing.sq a0 a1 a2 a3∈V)):=by
 have H:=Lib.hid h
 have HQ:=Lib.hid hq
 have HL:=Lib.hid hl
 have c4:=h.c4
 clear h hq hl
 by_cases hb0:bad=0
 ·subst hb0
  have HQ0:=Lib.hid (HQ.out rfl)
  clear HQ
  have c0:=H.out.c0
  have c1:=H.out.c1
  have HJ:=Lib.hid (fun w2 (h2:Lp w2 hb p R S A t b l 0)=>join_any w2 p R S h2.arm h2.inv h2.rel.live t h2.ht h2.few q0 q1 q2 q3)
  go_enter Tryz.func226,Tryz.ntmps226
  go_wp2_with fail
  have HLT:=Lib.hid H.out.blk.lt
  go_region_held3 (fun w'=>w'.cell? ⟨hb,0,none⟩=some (.pointer (some ⟨p,0,none⟩))∧w'.cell? ⟨hb,1,none⟩=some (.int .i64 t))
   (first | (with_reducible exact ⟨c0,c1⟩) | (with_reducible exact ⟨e0,e1⟩) | go_keep)
   ((go_at_call 68;refine (HJ.out _ (by exact H.out.drew)).mono ?_;rintro e w3 ⟨r,x,S',R',rfl,hj,hA3,hs3⟩;have e0:=(hs3.mod.cell (a:=⟨hb,0,none⟩) HLT.out H.out.ne).trans c0;have e1:=(hs3.mod.cell (a:=⟨hb,1,none⟩) HLT.out H.out.ne).trans c1))
  obtain ⟨A',hm,hd⟩:=H.out.rel.joinG (n:=n) H.out.ht HQ0.out.1.1 HQ0.out.2.1.1 HQ0.out.2.2.1.1 HQ0.out.2.2.2.1 HQ0.out.1.2 HQ0.out.2.1.2 HQ0.out.2.2.1.2 HQ0.out.2.2.2.2 HL.out.1 HL.out.2.1 HL.out.2.2.1 HL.out.2.2.2 hn hj
  have HM:Hid (Grew t (fun V=>Thing.sq a0 a1 a2 a3∈V) S A 0 S' A' x):=(hm.shrink (L':=[Thing.sq a0 a1 a2 a3]) H.out.rel H.out.ht (fun y hy=>by rw [List.mem_singleton.1 hy];exact mem_nodes.2 (.inl rfl)) (fun y hy=>by
   rcases mem_nodes.1 hy with k | k | k | k | k
   ·exact .inl (List.mem_singleton.2 k)
   ·exact .inr (H.out.rel.nodes_has H.out.ht HQ0.out.1.2 y k)
   ·exact .inr (H.out.rel.nodes_has H.out.ht HQ0.out.2.1.2 y k)
   ·exact .inr (H.out.rel.nodes_has H.out.ht HQ0.out.2.2.1.2 y k)
   ·exact .inr (H.out.rel.nodes_has H.out.ht HQ0.out.2.2.2.2 y k))).grew.mono fun V hV y hy=>by rw [List.mem_singleton.1 hy];exact hV
  have HD:Hid (x=0→Has S' A' t r (.node a0 a1 a2 a3)):=fun e=>⟨hd e,has_nodes fun y hy=>((hm.ok e).2.1 y).2 (.inr hy)⟩
  have HP3:Hid (Lp w3 hb p R' S' A' t b l 0):=H.out.drew.arena hA3 hs3 hm.st
  have HS3:Hid (StepH (fun b=>b=hb) p R R' w w3):=((StepH.refl (fun b=>b=hb) p R w).drew).trans (hs3.toH _)
  clear hm hd hj hA3 hs3 e0 e1 c0 c1 c4
  go_wp2_with fail
  (with_reducible refine (lfail_any _ hb p R' S' A' t b l 0 x HP3.out).mono ?_)
  rintro e w4 ⟨rfl,hp4,hs4,_⟩
  rw [if_pos rfl] at hp4
  have HP4:=Lib.hid hp4
  have HS4:=Lib.hid (HS3.out.trans hs4)
  clear hp4 hs4
  go_wp2_with fail
  go_returns
  exact ⟨r,S',A',R',x,rfl,HM.out,HD.out,HP4.out,HS4.out⟩
 ·have hb1:(bad==0)=false:=beq_eq_false_iff_ne.2 hb0
  have HB0:=Lib.hid hb0
  clear hb0
  go_enter Tryz.func226,Tryz.ntmps226
  go_wp2_with fail
  go_returns
  exact ⟨0,S,A,R,bad,rfl,Grew.none H.out.rel t _ _,fun e=>absurd e HB0.out,H.out,StepH.refl _ p R w⟩
end Go.Proofs.YthohnjgnpapnoaaGreatDoor
