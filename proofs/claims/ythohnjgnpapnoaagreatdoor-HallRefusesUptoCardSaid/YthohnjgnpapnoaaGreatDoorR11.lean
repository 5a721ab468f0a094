/- leap: blocks of a function's own beside a leaper. · quad: level, empty, done, half. · Lists without neighbours that are alike; rows of cells as functions. No program is named here. · Cells as values: compared, laid anew. · slices.Compact at []api.Cell. · quad: the four parts of a list of cells, in plain words and in memory. -/
import Derived.Test.YthohnjgnpapnoaaGreatDoorR10
import Derived.IntWalk
import Derived.Test.YthohnjgnpapnoaaGreatDoorR1
import Derived.Test.YthohnjgnpapnoaaGreatDoorRows
import Derived.BigQuiet
import Derived.Deep.QuietTactic
import Derived.Laws.StructEq
set_option linter.unusedVariables false
set_option linter.unusedSimpArgs false
namespace Go.Proofs.YthohnjgnpapnoaaGreatDoor
open Go.RowKit
structure Lc (w:World) (p:Nat) (R:ArR) (hb z:Nat) (ty:TypeId) (cs:Array Value):Prop where
 blk:Blk w z ty cs
 no:¬Own p R z
 ne:z≠hb
section
variable {p hb t z : Nat} {R R1 R' : ArR} {w w0 w1 w' : World} {S S' : ArS} {A A' : Nat → Abs} {b l bad bad' : Int} {ty : TypeId} {cs : Array Value}
theorem Lc.new (h:Lp w hb p R S A t b l bad) (ty:TypeId) (cs:Array Value):Lc (w.alloc (.cells cs ty)) p R hb w.heap.size ty cs:=
 ⟨Blk.new _ _ _,fun ho=>Nat.lt_irrefl _ (h.arm.own_lt ho),by have:=h.blk.lt;omega⟩
theorem Lc.step (h:Lc w p R hb z ty cs) (hs:StepH (fun b=>b=hb) p R R' w w'):Lc w' p R' hb z ty cs:=
 ⟨hs.keepX h.blk h.no h.ne,hs.not h.blk.lt h.no,h.ne⟩
theorem Lc.below (h:Lc w p R hb z ty cs) (hb':Below w.heap.size w w'):Lc w' p R hb z ty cs:=⟨h.blk.mod (Mod.of_below_all hb') id,h.no,h.ne⟩
theorem Lc.alloc (h:Lc w p R hb z ty cs) (o:Obj):Lc (w.alloc o) p R hb z ty cs:=⟨h.blk.alloc o,h.no,h.ne⟩
theorem Lc.drew (h:Lc w p R hb z ty cs):Lc w.drew p R hb z ty cs:=⟨h.blk,h.no,h.ne⟩
theorem Lc.drewN (h:Lc w p R hb z ty cs) (n:Nat):Lc (w.drewN n) p R hb z ty cs:=⟨h.blk,h.no,h.ne⟩
theorem Lc.set (h:Lc w p R hb z ty cs) (i:Nat) (v:Value):Lc (w.setCell ⟨z,i,none⟩ v) p R hb z ty (cs.setIfInBounds i v):=⟨h.blk.set i v,h.no,h.ne⟩
theorem Lc.far (h:Lc w p R hb z ty cs) {y:Nat} (hy:z≠y) (i:Nat) (v:Value):Lc (w.setCell ⟨y,i,none⟩ v) p R hb z ty cs:=⟨h.blk.far (p:=⟨y,i,none⟩) hy v,h.no,h.ne⟩
theorem Lp.lset (h:Lp w hb p R S A t b l bad) (hz:Lc w p R hb z ty cs) (i:Nat) (v:Value):Lp (w.setCell ⟨z,i,none⟩ v) hb p R S A t b l bad:=
 h.keep (T:=fun b=>b=z) ((Mod.refl (fun b=>b=z) w).set (p:=⟨z,i,none⟩) (fun _=>rfl) v) (fun _ hb e=>hz.no (e▸hb)) (fun e=>hz.ne e.symm)
theorem Lc.cell (h:Lc w p R hb z ty cs) {i:Nat} {v:Value} (hi:cs[i]? =some v):w.cell? ⟨z,i,none⟩=some v:=h.blk.cellS hi
theorem Lc.frozen (h:Lc w p R hb z ty cs) (i:Nat):w.frozen? ⟨z,i,none⟩=false:=h.blk.frozen i
abbrev StepN (hb p:Nat) (R R':ArR) (w w':World):Prop:=StepH (fun b=>b=hb∨w.heap.size≤b) p R R' w w'
theorem StepN.step (h:StepN hb p R R1 w w1) (k:StepH (fun b=>b=hb) p R1 R' w1 w'):StepN hb p R R' w w':=h.trans (k.wide fun _ _ e=> .inl e)
theorem StepN.lset (h:StepN hb p R R1 w w1) (hz:w.heap.size≤z) (i:Nat) (v:Value):StepN hb p R R1 w (w1.setCell ⟨z,i,none⟩ v):=StepH.set h (q:=⟨z,i,none⟩) (fun _=> .inr hz) v
theorem StepN.fin (h:StepN hb p R R1 w w1):StepH (fun b=>b=hb) p R R1 w w1:=h.wide fun b hb e=>by
 rcases e with e | e
 ·exact e
 ·omega
theorem StepN.refl (hb p:Nat) (R:ArR) (w:World):StepN hb p R R w w:=StepH.refl _ p R w
theorem StepN.below (h:StepN hb p R R1 w w1) (hb':Below w1.heap.size w1 w'):StepN hb p R R1 w w':=h.trans (StepH.of_below hb')
theorem StepN.alloc (h:StepN hb p R R1 w w1) (o:Obj):StepN hb p R R1 w (w1.alloc o):=StepH.alloc h o
theorem StepN.drew (h:StepN hb p R R1 w w1):StepN hb p R R1 w w1.drew:=StepH.drew h
end
theorem fn4 (a b c d:Int):∃r:Nat→Int,r 0=a∧r 1=b∧r 2=c∧r 3=d:=⟨fun k=>if k=0 then a else if k=1 then b else if k=2 then c else d,rfl,rfl,rfl,rfl⟩
def z4:Array Value:=#[.int .i64 0,.int .i64 0,.int .i64 0,.int .i64 0]
def v4 (k0 k1 k2 k3:Int):Array Value:=#[.int .i64 k0,.int .i64 k1,.int .i64 k2,.int .i64 k3]
structure MidQ (w:World) (hb p:Nat) (R:ArR) (S:ArS) (A:Nat→Abs) (t:Nat) (b l bad:Int) (k0 k1 k2 k3:Int) (w5:World) (qb:Nat):Prop where
 lp:Lp w5 hb p R S A t b l bad
 q:Lc w5 p R hb qb 22 #[.int .i64 k0,.int .i64 k1,.int .i64 k2,.int .i64 k3]
 r:Lc w5 p R hb w.heap.size 22 #[.int .i64 0,.int .i64 0,.int .i64 0,.int .i64 0]
 ne:qb≠w.heap.size
 lo:w.heap.size≤qb
 st:StepN hb p R R w w5
section
variable {w w2 w3 : World} {hb p : Nat} {R : ArR} {S : ArS} {A : Nat → Abs} {t : Nat} {b l bad : Int} {k0 k1 k2 k3 : Int}
theorem midq_a (H2:Lp w2 hb p R S A t b l bad) (hs:StepN hb p R R w w2) (hr:Lc w2 p R hb w.heap.size 22 #[.int .i64 0,.int .i64 0,.int .i64 0,.int .i64 0]) (hb3:Below w2.drew.heap.size w2.drew w3):
 MidQ w hb p R S A t b l bad k0 k1 k2 k3 (w3.alloc (.cells #[.int .i64 k0,.int .i64 k1,.int .i64 k2,.int .i64 k3] 22)) w3.heap.size:=by
 have h1:=hr.blk.lt
 have h2:w2.heap.size≤w3.heap.size:=hb3.size
 exact ⟨(H2.drew.below hb3).alloc _,Lc.new (H2.drew.below hb3) _ _,(hr.drew.below hb3).alloc _,by omega,by omega,(hs.drew.below hb3).alloc _⟩
theorem midq_b (H2:Lp w2 hb p R S A t b l bad) (hs:StepN hb p R R w w2) (hr:Lc w2 p R hb w.heap.size 22 #[.int .i64 0,.int .i64 0,.int .i64 0,.int .i64 0])
 (hb3:Below (w2.alloc (.cells #[.int .i64 0,.int .i64 0,.int .i64 0,.int .i64 0] 22)).drew.heap.size (w2.alloc (.cells #[.int .i64 0,.int .i64 0,.int .i64 0,.int .i64 0] 22)).drew w3):
 MidQ w hb p R S A t b l bad k0 k1 k2 k3 ((((w3.setCell ⟨w2.heap.size,0,none⟩ (.int .i64 k0)).setCell ⟨w2.heap.size,1,none⟩ (.int .i64 k1)).setCell ⟨w2.heap.size,2,none⟩ (.int .i64 k2)).setCell ⟨w2.heap.size,3,none⟩ (.int .i64 k3)) w2.heap.size:=by
 have h1:=hr.blk.lt
 have hq:=(Lc.new H2 22 #[.int .i64 0,.int .i64 0,.int .i64 0,.int .i64 0]).drew.below hb3
 have hl:=(H2.alloc (.cells #[.int .i64 0,.int .i64 0,.int .i64 0,.int .i64 0] 22)).drew.below hb3
 have hn:w.heap.size≠w2.heap.size:=by omega
 have hlo:w.heap.size≤w2.heap.size:=by omega
 have q1:=hq.set 0 (.int .i64 k0)
 have q2:=q1.set 1 (.int .i64 k1)
 have q3:=q2.set 2 (.int .i64 k2)
 exact ⟨(((hl.lset hq 0 _).lset q1 1 _).lset q2 2 _).lset q3 3 _,q3.set 3 (.int .i64 k3),(((((hr.alloc _).drew.below hb3).far hn 0 _).far hn 1 _).far hn 2 _).far hn 3 _,by omega,hlo,
  (((((hs.alloc _).drew.below hb3).lset hlo 0 _).lset hlo 1 _).lset hlo 2 _).lset hlo 3 _⟩
theorem MidQ.step {w5 w6:World} {qb:Nat} (h:MidQ w hb p R S A t b l bad k0 k1 k2 k3 w5 qb) (hp:Lp w6 hb p R S A t b l bad) (hs:StepH (fun b=>b=hb) p R R w5 w6):MidQ w hb p R S A t b l bad k0 k1 k2 k3 w6 qb:=
 ⟨hp,h.q.step hs,h.r.step hs,h.ne,h.lo,h.st.step hs⟩
theorem MidQ.fin {w5:World} {qb:Nat} (h:MidQ w hb p R S A t b l bad k0 k1 k2 k3 w5 qb) (u0 u1 u2 u3:Value):
 Lc ((((w5.setCell ⟨w.heap.size,0,none⟩ u0).setCell ⟨w.heap.size,1,none⟩ u1).setCell ⟨w.heap.size,2,none⟩ u2).setCell ⟨w.heap.size,3,none⟩ u3) p R hb w.heap.size 22 #[u0,u1,u2,u3]∧Lp ((((w5.setCell ⟨w.heap.size,0,none⟩ u0).setCell ⟨w.heap.size,1,none⟩ u1).setCell ⟨w.heap.size,2,none⟩ u2).setCell ⟨w.heap.size,3,none⟩ u3) hb p R S A t b l bad∧StepN hb p R R w ((((w5.setCell ⟨w.heap.size,0,none⟩ u0).setCell ⟨w.heap.size,1,none⟩ u1).setCell ⟨w.heap.size,2,none⟩ u2).setCell ⟨w.heap.size,3,none⟩ u3):=by
 have q1:=h.r.set 0 u0
 have q2:=q1.set 1 u1
 have q3:=q2.set 2 u2
 have hlo:=Nat.le_refl w.heap.size
 exact ⟨q3.set 3 u3,(((h.lp.lset h.r 0 _).lset q1 1 _).lset q2 2 _).lset q3 3 _,(((h.st.lset hlo 0 _).lset hlo 1 _).lset hlo 2 _).lset hlo 3 _⟩
end
def LKidsPost (w:World) (hb p:Nat) (R:ArR) (S:ArS) (A:Nat→Abs) (t:Nat) (b l bad:Int) (T:Tree) (e:Ending) (w':World):Prop:=
 ∃k0 k1 k2 k3:Int,e= .returned (.agg #[.int .i64 k0,.int .i64 k1,.int .i64 k2,.int .i64 k3])∧(bad=0→Has S A t k0 (T.kid 0)∧Has S A t k1 (T.kid 1)∧Has S A t k2 (T.kid 2)∧Has S A t k3 (T.kid 3))∧(bad≠0→k0=0∧k1=0∧k2=0∧k3=0)∧Lp w' hb p R S A t b l bad∧StepH (fun b=>b=hb) p R R w w'
set_option maxRecDepth 100000 in
set_option maxHeartbeats 3200000 in
theorem lkids_any (w:World) (hb p:Nat) (R:ArR) (S:ArS) (A:Nat→Abs) (t:Nat) (b l bad:Int) (h:Lp w hb p R S A t b l bad)
 (id:Int) (T:Tree) (n:Nat) (hT:Pf (n+1) T) (hq:bad=0→Has S A t id T):
 Calls Tryz.prog 224 #[.pointer (some ⟨hb,0,none⟩),.int .i64 id] w (LKidsPost w hb p R S A t b l bad T):=by
 have H:=Lib.hid h
 have H2:=Lib.hid (h.alloc (.cells #[.int .i64 0,.int .i64 0,.int .i64 0,.int .i64 0] 22))
 have HR2:=Lib.hid (Lc.new h 22 #[.int .i64 0,.int .i64 0,.int .i64 0,.int .i64 0])
 have HS2:Hid (StepN hb p R R w (w.alloc (.cells #[.int .i64 0,.int .i64 0,.int .i64 0,.int .i64 0] 22))):=(StepN.refl hb p R w).alloc _
 have c4:=H2.out.c4
 by_cases hb0:bad=0
 ·subst hb0
  have HQ:Hid (Has S A t id (.node (T.kid 0) (T.kid 1) (T.kid 2) (T.kid 3))):=by have:=hq rfl;rw [hT.eta] at this;exact this
  clear h hq
  go_enter Tryz.func224,Tryz.ntmps224
  go_wp2_with fail
  clear c4
  generalize w.alloc (.cells #[.int .i64 0,.int .i64 0,.int .i64 0,.int .i64 0] 22)=w2 at H2 HS2 HR2 ⊢
  have c0:=H2.out.c0
  have c1:=H2.out.c1
  have HK:=Lib.hid (fun W hA=>kids_any W p R S hA H2.out.inv.len t H2.out.ht id)
  have HLT:=Lib.hid H2.out.blk.lt
  have HNE:Hid (hb≠w2.heap.size):=by have:=HLT.out;show hb≠w2.heap.size;omega
  go_region_held3 (fun w'=>w'.cell? ⟨hb,0,none⟩=some (.pointer (some ⟨p,0,none⟩))∧w'.cell? ⟨hb,1,none⟩=some (.int .i64 t))
   (first | (with_reducible exact ⟨c0,c1⟩) | (with_reducible exact ⟨e0,e1⟩) | (with_reducible exact keep_w4 HNE.out e0 e1 _ _ _ _) | go_keep)
   (first
     | (go_at_call 191;refine (HK.out _ (by exact H2.out.arm.drew)).mono ?_;rintro e w3 ⟨hk,hb3⟩;obtain ⟨k0,k1,k2,k3,rfl,h0,h1,h2,h3⟩:=kids_has H2.out.rel H2.out.ht HQ.out hk;have e0:=(hb3.cell (p:=⟨hb,0,none⟩) HLT.out).trans c0;have e1:=(hb3.cell (p:=⟨hb,1,none⟩) HLT.out).trans c1;have HM:=Lib.hid (midq_a (k0:=k0) (k1:=k1) (k2:=k2) (k3:=k3) H2.out HS2.out HR2.out hb3))
     | (go_at_call 191;refine (HK.out _ (by exact (H2.out.arm.alloc _).drew)).mono ?_;rintro e w3 ⟨hk,hb3⟩;obtain ⟨k0,k1,k2,k3,rfl,h0,h1,h2,h3⟩:=kids_has H2.out.rel H2.out.ht HQ.out hk;have hlt1:(⟨hb,0,none⟩:Addr).block<(w2.alloc (.cells #[.int .i64 0,.int .i64 0,.int .i64 0,.int .i64 0] 22)).drew.heap.size:=(H2.out.alloc _).blk.lt;have e0:=(hb3.cell (p:=⟨hb,0,none⟩) hlt1).trans ((World.cell?_alloc_lt w2 _ ⟨hb,0,none⟩ HLT.out).trans c0);have e1:=(hb3.cell (p:=⟨hb,1,none⟩) hlt1).trans ((World.cell?_alloc_lt w2 _ ⟨hb,1,none⟩ HLT.out).trans c1);have HM:=Lib.hid (midq_b (k0:=k0) (k1:=k1) (k2:=k2) (k3:=k3) H2.out HS2.out HR2.out hb3);have HZ:=Lib.hid ((Blk.new w2 22 #[.int .i64 0,.int .i64 0,.int .i64 0,.int .i64 0]).drew.mod (Mod.of_below_all hb3) (fun h=>h));have z0:=HZ.out.cellS (i:=0) rfl;have z1:=HZ.out.cellS (i:=1) rfl;have z2:=HZ.out.cellS (i:=2) rfl;have z3:=HZ.out.cellS (i:=3) rfl;have f0:=HZ.out.frozen 0;have f1:=HZ.out.frozen 1;have f2:=HZ.out.frozen 2;have f3:=HZ.out.frozen 3))
  all_goals clear c0 c1 e0 e1 hk HK HLT HNE H2 HS2 HR2
  all_goals (first
   | (clear z0 z1 z2 z3 f0 f1 f2 f3 HZ
      generalize World.setCell _ _ _=w5 at HM ⊢
      generalize w2.heap.size=qb at HM ⊢)
   | (generalize World.alloc w3 _=w5 at HM ⊢
      generalize w3.heap.size=qb at HM ⊢))
  all_goals (
   have H01:Hid (Has S A t k0 (T.kid 0)∧Has S A t k1 (T.kid 1)∧Has S A t k2 (T.kid 2)∧Has S A t k3 (T.kid 3)):=⟨h0,h1,h2,h3⟩
   clear h0 h1 h2 h3
   go_wp2_with fail
   (with_reducible refine (lfail_any _ hb p R S A t b l 0 0 HM.out.lp).mono ?_)
   rintro e w6 ⟨rfl,hp6,hs6,_⟩
   rw [if_pos rfl] at hp6
   have HM6:=Lib.hid (HM.out.step hp6 hs6)
   clear HM hp6 hs6
   have q0:=HM6.out.q.cell (i:=0) rfl
   have q1:=HM6.out.q.cell (i:=1) rfl
   have q2:=HM6.out.q.cell (i:=2) rfl
   have q3:=HM6.out.q.cell (i:=3) rfl
   have r0:=HM6.out.r.cell (i:=0) rfl
   have r1:=HM6.out.r.cell (i:=1) rfl
   have r2:=HM6.out.r.cell (i:=2) rfl
   have r3:=HM6.out.r.cell (i:=3) rfl
   have g0:=HM6.out.r.frozen 0
   have g1:=HM6.out.r.frozen 1
   have g2:=HM6.out.r.frozen 2
   have g3:=HM6.out.r.frozen 3
   have HF:=Lib.hid (HM6.out.fin (.int .i64 k0) (.int .i64 k1) (.int .i64 k2) (.int .i64 k3))
   go_wp2_with fail
   clear q0 q1 q2 q3 r0 r1 r2 r3 g0 g1 g2 g3 HM6
   generalize World.setCell _ _ _=w7 at HF ⊢
   have s0:w7.cell? ⟨w.heap.size,0,none⟩=some (.int .i64 k0):=HF.out.1.cell (i:=0) rfl
   have s1:w7.cell? ⟨w.heap.size,1,none⟩=some (.int .i64 k1):=HF.out.1.cell (i:=1) rfl
   have s2:w7.cell? ⟨w.heap.size,2,none⟩=some (.int .i64 k2):=HF.out.1.cell (i:=2) rfl
   have s3:w7.cell? ⟨w.heap.size,3,none⟩=some (.int .i64 k3):=HF.out.1.cell (i:=3) rfl
   exact bodyPost_ret (v:= .agg #[.int .i64 k0,.int .i64 k1,.int .i64 k2,.int .i64 k3]) (by simp [results,Tryz.results224,go_sem,s0,s1,s2,s3]) rfl ⟨k0,k1,k2,k3,rfl,fun _=>H01.out,fun e=>absurd rfl e,HF.out.2.1,HF.out.2.2.fin⟩)
 ·have hb1:(bad==0)=false:=beq_eq_false_iff_ne.2 hb0
  have HB0:=Lib.hid hb0
  clear hb0 hq h
  go_enter Tryz.func224,Tryz.ntmps224
  go_wp2_with fail
  go_returns
  exact ⟨0,0,0,0,rfl,fun e=>absurd e HB0.out,fun _=>⟨rfl,rfl,rfl,rfl⟩,H2.out,HS2.out.fin⟩
end Go.Proofs.YthohnjgnpapnoaaGreatDoor
namespace Go.Proofs.YthohnjgnpapnoaaGreatDoor
open Go.RowKit
def LevelPost (w:World) (hb:Nat) (ty:TypeId) (more:List Value) (p:Nat) (R:ArR) (S:ArS) (A:Nat→Abs) (t:Nat) (bad:Int) (T:Tree) (e:Ending) (w':World):Prop:=
 ∃n:Int,e= .returned (.int .i64 n)∧(bad=0→n=T.lvl)∧Hd w' hb ty more p R S A t bad∧StepH (fun b=>b=hb) p R R w w'
set_option maxRecDepth 100000 in
set_option maxHeartbeats 3200000 in
theorem hlevel_any (w:World) (hb:Nat) (ty:TypeId) (more:List Value) (p:Nat) (R:ArR) (S:ArS) (A:Nat→Abs) (t:Nat) (bad:Int) (h:Hd w hb ty more p R S A t bad)
 (id:Int) (T:Tree) (hq:bad=0→Has S A t id T):
 Calls Tryz.prog 152 #[.pointer (some ⟨hb,0,none⟩),.int .i64 id] w (LevelPost w hb ty more p R S A t bad T):=by
 have H:=Lib.hid h
 have c2:=h.c2
 clear h
 by_cases hb0:bad=0
 ·subst hb0
  have HQ0:=Lib.hid (hq rfl)
  clear hq
  have c0:=H.out.c0
  have c1:=H.out.c1
  have hk:=level_any w.drew p R S H.out.arm.drew H.out.inv.len t H.out.ht id
  rw [if_pos (by rw [H.out.rel.owns H.out.ht HQ0.out.1];exact HQ0.out.2)] at hk
  have HK:=Lib.hid hk
  clear hk
  have HN:=Lib.hid (HQ0.out.1.level H.out.inv)
  have f2:=H.out.f 2
  have HE:Hid (Hd (w.drew.setCell ⟨hb,2,none⟩ (.int .i64 0)) hb ty more p R S A t 0):=H.out.drew.step H.out.arm.drew (Step.refl p R w.drew) (St.refl H.out.rel t) 0
  have HS3:Hid (StepH (fun b=>b=hb) p R R w (w.drew.setCell ⟨hb,2,none⟩ (.int .i64 0))):=((StepH.refl (fun b=>b=hb) p R w).drew).set (q:=⟨hb,2,none⟩) (fun _=>rfl) _
  go_enter Tryz.func152,Tryz.ntmps152
  go_wp2_with fail
  go_region_held3 (fun w'=>w'.cell? ⟨hb,0,none⟩=some (.pointer (some ⟨p,0,none⟩))∧w'.cell? ⟨hb,1,none⟩=some (.int .i64 t))
   (first | (with_reducible exact ⟨c0,c1⟩) | go_keep)
   ((go_at_call 190;refine HK.out.mono ?_;rintro e w3 ⟨rfl,rfl⟩))
  go_wp2_with fail
  go_returns
  exact ⟨_,rfl,fun _=>HN.out,HE.out,HS3.out⟩
 ·have hb1:(bad==0)=false:=beq_eq_false_iff_ne.2 hb0
  have HB0:=Lib.hid hb0
  clear hb0 hq
  go_enter Tryz.func152,Tryz.ntmps152
  go_wp2_with fail
  go_returns
  exact ⟨0,rfl,fun e=>absurd e HB0.out,H.out,StepH.refl _ p R w⟩
set_option maxRecDepth 100000 in
set_option maxHeartbeats 3200000 in
theorem done_any (w:World) (hb:Nat) (bad:Int) (c2:w.cell? ⟨hb,2,none⟩=some (.int .i64 bad)) (id:Int):
 Calls Tryz.prog 106 #[.pointer (some ⟨hb,0,none⟩),.int .i64 id] w fun e w'=>e= .returned (.tuple #[.int .i64 (if bad=0 then id else 0),.int .i64 bad])∧Below w.heap.size w w':=by
 by_cases hb0:bad=0
 ·subst hb0
  rw [if_pos rfl]
  go_enter Tryz.func106,Tryz.ntmps106
  go_wp2_with fail
  go_returns
  exact ⟨rfl,Below.refl _ _⟩
 ·rw [if_neg hb0]
  have hb1:(bad==0)=false:=beq_eq_false_iff_ne.2 hb0
  clear hb0
  go_enter Tryz.func106,Tryz.ntmps106
  go_wp2_with fail
  go_region_held3 (fun w'=>w'.cell? ⟨hb,2,none⟩=some (.int .i64 bad)) (first | exact c2 | go_keep) (fail)
  go_wp2_with fail
  go_returns
  exact ⟨rfl,(Below.refl _ _).drew⟩
theorem pow_i64 {n:Nat} (h:n≤61):(2:Int)^n≤2305843009213693952:=by
 have:=Nat.pow_le_pow_right (n:=2) (by decide) h
 have h2:((2^n:Nat):Int)≤((2^61:Nat):Int):=Int.ofNat_le.2 this
 rw [show (2:Nat)^61=2305843009213693952 by decide] at h2
 simpa using h2
set_option maxRecDepth 100000 in
theorem half_any (w:World) (n:Nat) (hn:n≤61):Calls Tryz.prog 105 #[.int .i64 ((n:Int)+1)] w fun e w'=>e= .returned (.int .i64 (2^n))∧w=w':=by
 have h1:=pow_i64 hn
 have h2:=pow_pos2 n
 go_enter Tryz.func105,Tryz.ntmps105
 go_wp2_with fail
 go_returns
 exact ⟨rfl,rfl⟩
structure EmptyI (w:World) (hb:Nat) (ty:TypeId) (more:List Value) (p:Nat) (R:ArR) (S:ArS) (A:Nat→Abs) (t:Nat) (bad:Int) (i:Nat) (r:Int) (S':ArS) (A':Nat→Abs) (R':ArR) (bad':Int) (w':World):Prop where
 made:Made t (nodes (emptyT i)) S A bad S' A' bad'
 has:bad'=0→Has S' A' t r (emptyT i)
 hd:Hd w' hb ty more p R' S' A' t bad'
 st:StepH (fun b=>b=hb) p R R' w w'
theorem Has.dead {S:ArS} {A:Nat→Abs} {t:Nat}:Has S A t 0 .dead:=⟨by simp only [Den],rfl⟩
theorem Has.alive {S:ArS} {A:Nat→Abs} {t:Nat}:Has S A t 1 .alive:=⟨by simp only [Den],rfl⟩
theorem Made.next {S S1 S2:ArS} {A A1 A2:Nat→Abs} {t:Nat} {L L1:List Thing} {bad bad1 bad2:Int} (h:Made t L S A bad S1 A1 bad1) (k:Made t L1 S1 A1 bad1 S2 A2 bad2) (hl:∀x∈L,x∈L1):Made t L1 S A bad S2 A2 bad2:=
 (h.trans k).of (fun x hx=>by
   rcases List.mem_append.1 hx with a | a
   ·exact hl x a
   ·exact a) (fun _ x hx=> .inl (List.mem_append_right _ hx))
theorem nodes_blank (i:Nat):∀x∈nodes (emptyT i),x∈nodes (emptyT (i+1)):=fun x hx=>by
 rw [nodes_emptyT] at hx ⊢;exact List.mem_cons_of_mem _ hx
set_option maxRecDepth 100000 in
set_option maxHeartbeats 3200000 in
theorem hempty_any (w:World) (hb:Nat) (ty:TypeId) (more:List Value) (p:Nat) (R:ArR) (S:ArS) (A:Nat→Abs) (t:Nat) (bad:Int) (h:Hd w hb ty more p R S A t bad) (n:Nat) (hn:n≤44):
 Calls Tryz.prog 150 #[.pointer (some ⟨hb,0,none⟩),.int .i64 n] w (HandPost w hb ty more p R S A t bad (emptyT n)):=by
 have H:=Lib.hid h
 clear h
 go_enter Tryz.func150,Tryz.ntmps150
 go_wp2_with fail
 go_loopw [5,7] (fun r iv wx=>∃(i:Nat) (rn:Int) (S':ArS) (A':Nat→Abs) (R':ArR) (bad':Int),iv= .int .i64 i∧i≤n∧r= .int .i64 rn∧EmptyI w hb ty more p R S A t bad i rn S' A' R' bad' wx) (fun _ iv _=>n-(intOf iv).toNat)
 case atStart=>exact ⟨0,0,S,A,R,bad,rfl,Nat.zero_le _,rfl,Made.refl H.out.rel t bad,fun _=>Has.dead,H.out,StepH.refl _ p R w⟩
 case round=>
  obtain ⟨i,rn,S',A',R',bad',rfl,hi,rfl,hE⟩:=hrel
  have HE:=Lib.hid hE
  clear hE
  by_cases hin:i<n
  ·have hlt:(i:Int)<n:=by omega
   have hwi:=wrap_nat' i (by unfold maxLen;omega)
   have HI:=Lib.hid hin
   have HJ:=Lib.hid (hjoin_any wr hb ty more p R' S' A' t bad' HE.out.hd rn rn rn rn (emptyT i) (emptyT i) (emptyT i) (emptyT i) i (fun e=>⟨HE.out.has e,HE.out.has e,HE.out.has e,HE.out.has e⟩) ⟨emptyT_lvl i,emptyT_lvl i,emptyT_lvl i,emptyT_lvl i⟩ (by omega))
   clear hin hi
   go_wp2_with fail
   (with_reducible refine HJ.out.mono ?_)
   rintro e w3 ⟨r,S2,A2,R2,bad2,rfl,hm,hh,hd,hst⟩
   have HE2:Hid (EmptyI w hb ty more p R S A t bad (i+1) r S2 A2 R2 bad2 w3):=⟨HE.out.made.next hm (nodes_blank i),hh,hd,HE.out.st.trans hst⟩
   clear hm hh hd hst HJ
   go_wp2_with fail
   go_roundw
   case rel=>exact ⟨i+1,r,S2,A2,R2,bad2,by go_num,HI.out,rfl,HE2.out⟩
   case measure=>simp [intOf];have:=HI.out;omega
  ·have hi5:i=n:=by omega
   subst hi5
   clear hin hi
   go_wp2_with fail
   go_returns
   exact ⟨rn,S',A',R',bad',rfl,HE.out.made,HE.out.has,HE.out.hd,HE.out.st⟩
end Go.Proofs.YthohnjgnpapnoaaGreatDoor
namespace Go.Proofs.YthohnjgnpapnoaaGreatDoor
open Go.RowKit
section
variable {α : Type} [DecidableEq α]
def compStep (acc:List α) (x:α):List α:=if acc.getLast? =some x then acc else acc++ [x]
def compactL (l:List α):List α:=l.foldl compStep []
theorem compactL_snoc (l:List α) (x:α):compactL (l++ [x])=compStep (compactL l) x:=by simp [compactL]
theorem compStep_last (acc:List α) (x:α):(compStep acc x).getLast? =some x:=by
 unfold compStep;split
 ·assumption
 ·simp
omit [DecidableEq α] in
theorem snoc_ind {p:List α→Prop} (h0:p []) (h1:∀l x,p l→p (l++ [x])):∀l,p l:=by
 intro l
 have:∀n (l:List α),l.length=n→p l:=by
  intro n
  induction n with
  | zero=>intro l hl;rw [List.eq_nil_of_length_eq_zero hl];exact h0
  | succ n ih=>
    intro l hl
    have hne:l≠ []:=by intro e;subst e;simp at hl
    rw [←List.dropLast_concat_getLast hne]
    exact h1 _ _ (ih _ (by simp [hl]))
 exact this _ l rfl
theorem compactL_last (l:List α):(compactL l).getLast? =l.getLast? :=by
 refine snoc_ind (p:=fun l=>(compactL l).getLast? =l.getLast?) rfl ?_ l
 intro l x _
 rw [compactL_snoc,compStep_last];simp
theorem compactL_mem (l:List α) (c:α):c∈compactL l↔c∈l:=by
 refine snoc_ind (p:=fun l=>c∈compactL l↔c∈l) (by simp [compactL]) ?_ l
 intro l x ih
 rw [compactL_snoc];unfold compStep;split
 ·rename_i h
  have hx:x∈compactL l:=List.mem_of_getLast? h
  rw [ih];simp only [List.mem_append,List.mem_singleton]
  constructor
  ·exact fun h=> .inl h
  ·rintro (h | rfl)
   ·exact h
   ·refine (by
     have:=compactL_last l
     rw [h] at this
     exact List.mem_of_getLast? this.symm)
 ·simp [ih]
theorem compactL_sorted {lt:α→α→Prop} (hirr:∀a,¬lt a a) (htr:∀a b c,lt a b→lt b c→lt a c) (l:List α) (hs:l.Pairwise fun a b=>lt a b∨a=b):(compactL l).Pairwise lt:=by
 revert hs
 refine snoc_ind (p:=fun l=>(l.Pairwise fun a b=>lt a b∨a=b)→(compactL l).Pairwise lt) (by simp [compactL]) ?_ l
 intro l x ih hs
 rw [List.pairwise_append] at hs
 obtain ⟨h1,_,h3⟩:=hs
 rw [compactL_snoc];unfold compStep;split
 ·exact ih h1
 ·rename_i hne
  rw [List.pairwise_append]
  refine ⟨ih h1,by simp,?_⟩
  intro a ha b hb
  simp at hb;subst hb
  have ha':a∈l:=(compactL_mem l a).1 ha
  rcases h3 a ha' b (by simp) with h | h
  ·exact h
  ·subst h
   --a is in the compact list,which is sorted,and its last is not a:then a<last≤a
   exfalso
   have hl:compactL l≠ []:=by intro e;rw [e] at ha;simp at ha
   obtain ⟨la,hla⟩:∃la,(compactL l).getLast? =some la:=by
    rw [List.getLast?_eq_some_getLast hl];exact ⟨_,rfl⟩
   have hd:=List.dropLast_concat_getLast hl
   have e2:(compactL l).getLast hl=la:=by rw [List.getLast?_eq_some_getLast hl] at hla;injection hla
   rw [e2] at hd
   have hp:=ih h1
   rw [←hd] at hp ha
   rw [List.pairwise_append] at hp
   simp only [List.mem_append,List.mem_singleton] at ha
   have hlam:la∈l:=(compactL_mem l la).1 (List.mem_of_getLast? hla)
   rcases ha with ha | rfl
   ·have h4:=hp.2.2 a ha la (by simp)
    rcases h3 la hlam a (by simp) with h5 | h5
    ·have h6:=htr _ _ _ h4 h5
     exact hirr a h6
    ·exact hne (by rw [hla,h5])
   ·exact hne hla
end
end Go.Proofs.YthohnjgnpapnoaaGreatDoor
namespace Go.Proofs.YthohnjgnpapnoaaGreatDoor
open Go.RowKit
def eqC (a b:Int×Int):Bool:=a.1==b.1&&a.2==b.2
theorem eqC_true (a b:Int×Int):eqC a b=true↔a=b:=by
 unfold eqC;simp [Prod.ext_iff]
theorem eqC_false (a b:Int×Int):eqC a b=false↔a≠b:=by
 have:=eqC_true a b
 cases h:eqC a b<;>simp_all
theorem run_eqC (a b:Int×Int) (w:World):(binOp .eql 109 (.agg #[.int .i64 a.1,.int .i64 a.2]) (.agg #[.int .i64 b.1,.int .i64 b.2])).run Tryz.prog w= .ok (.bool (eqC a b)) w:=by
 have hS:Tryz.prog.underlying 109=some (.struct (Tryz.prog.fieldsOf 109)):=by kernel_rfl
 have hp:Tryz.prog.stoodInHeld 109=false:=by kernel_rfl
 have u3:=Tryz.underlying3
 have z3:=Tryz.sizeOf3
 have a3:=Tryz.isAgg3
 rw [run_eql_struct,show (10000:Nat)=9999+1 from rfl,run_equalIn_agg w 9999 _ _ _ hS hp]
 simp only [Program.fieldsOf,Tryz.underlying109]
 go_simp
 unfold eqC
 by_cases h1:a.1=b.1<;>by_cases h2:a.2=b.2<;>simp [h1,h2]
theorem run_neC (a b:Int×Int) (w:World):(binOp .neq 109 (.agg #[.int .i64 a.1,.int .i64 a.2]) (.agg #[.int .i64 b.1,.int .i64 b.2])).run Tryz.prog w= .ok (.bool (!eqC a b)) w:=by
 have hS:Tryz.prog.underlying 109=some (.struct (Tryz.prog.fieldsOf 109)):=by kernel_rfl
 have hp:Tryz.prog.stoodInHeld 109=false:=by kernel_rfl
 have u3:=Tryz.underlying3
 have z3:=Tryz.sizeOf3
 have a3:=Tryz.isAgg3
 rw [run_neq_struct,show (10000:Nat)=9999+1 from rfl,run_equalIn_agg w 9999 _ _ _ hS hp]
 simp only [Program.fieldsOf,Tryz.underlying109]
 go_simp
 unfold eqC
 by_cases h1:a.1=b.1<;>by_cases h2:a.2=b.2<;>simp [h1,h2]
theorem Tryz.info109:(Tryz.prog.info? 109).map (fun i=>(i.zero,i.size,i.bytes))=some (some (.agg #[.int .i64 0,.int .i64 0]),2,16):=by kernel_rfl
theorem fresh_cells (w:World) (l:List (Int×Int)) (n:Nat) (hl:l.length=n) (hn:n≤maxLen):
 Rd (w.alloc (.cells (flat l).toArray 109)) (w.heap.size+1) 2 (.slice (some ⟨w.heap.size,0,none⟩) n n) n (flat l):=by
 have:=Rd.fresh w 109 (flat l).toArray 2 n (by simp [flat_length,hl]) hn
 simpa using this
end Go.Proofs.YthohnjgnpapnoaaGreatDoor
namespace Go.Proofs.YthohnjgnpapnoaaGreatDoor
open Go.RowKit
def zeros (k:Nat):List (Int×Int):=List.replicate k (0,0)
theorem RowC.zeros {w:World} {t b off n:Nat} {F:Nat→Int×Int} (h:RowC w t b off n F):∀(k i:Nat),i+k≤n→
 RowC (w.setCells b (off+i*2) (flat (zeros k))) t b off n (fun j=>if i≤j∧j<i+k then (0,0) else F j):=by
 intro k
 induction k generalizing w F with
 | zero=>
   intro i _
   exact h.congr fun j _=>by rw [if_neg (by omega)]
 | succ k ih=>
   intro i hi
   have h1:=ih (h.set (i:=i) (by omega) 0 0) (i+1) (by omega)
   have e:w.setCells b (off+i*2) (flat (YthohnjgnpapnoaaGreatDoor.zeros (k+1)))=((w.setCell ⟨b,off+i*2,none⟩ (.int .i64 0)).setCell ⟨b,off+i*2+1,none⟩ (.int .i64 0)).setCells b (off+(i+1)*2) (flat (YthohnjgnpapnoaaGreatDoor.zeros k)):=by
    show w.setCells b (off+i*2) (.int .i64 0:: .int .i64 0::flat (YthohnjgnpapnoaaGreatDoor.zeros k))=_
    rw [World.setCells,World.setCells]
    rw [show off+(i+1)*2=off+i*2+1+1 by omega]
   rw [e]
   refine h1.congr fun j hj=>?_
   by_cases e1:i+1≤j∧j<i+1+k
   ·rw [if_pos e1,if_pos (by omega)]
   ·rw [if_neg e1]
    by_cases e2:j=i
    ·rw [if_pos e2,if_pos (by omega)]
    ·rw [if_neg e2,if_neg (by omega)]
theorem zeroCells_flat (k:Nat):(Builtin.zeroCells #[.int .i64 0,.int .i64 0] k).toList=flat (zeros k):=by
 have h:∀k,(List.range (k*2)).map (fun i=>(#[Value.int .i64 0,Value.int .i64 0]:Array Value)[i%2]!)=flat (zeros k):=by
  intro k
  induction k with
  | zero=>rfl
  | succ k ih=>
    rw [show (k+1)*2=k*2+1+1 by omega,List.range_succ,List.range_succ]
    simp only [List.map_append,ih,List.map_cons,List.map_nil,zeros,List.replicate_succ']
    rw [flat_append]
    rw [show (k*2)%2=0 by omega,show (k*2+1)%2=1 by omega]
    simp [flat]
 have:=h k
 unfold Builtin.zeroCells
 simpa using this
theorem run_clear_cells (w:World) (ty:TypeId) {b off n:Nat} {F:Nat→Int×Int} (h:RowC w 109 b off n F) {i k c:Nat} (hi:i+k≤n) (hk:0<k):
 (Builtin.clear_ #[55] ty #[.slice (some ⟨b,off+i*2,none⟩) k c]).run Tryz.prog w= .ok (.tuple #[]) (w.setCells b (off+i*2) (flat (zeros k))):=by
 obtain ⟨cs,h1,h2,h3⟩:=h
 have hz:(zeroValue 109).run Tryz.prog w= .ok (.agg #[.int .i64 0,.int .i64 0]) w:=Tryz.zeroValue109 w
 have hl:(flat (zeros k)).length=k*2:=by rw [flat_length];simp [zeros]
 have hst:=run_storeCells_cells (P:=Tryz.prog) b (off+i*2) (flat (zeros k)) 0 w
  (fun j hj=>by rw [Nat.add_zero,h1.cell,Array.getElem?_eq_getElem (by omega)];rfl) (fun j hj=>h1.frozen _) flat_one
 simp only [Nat.add_zero] at hst
 have hk0:k≠0:=by omega
 cases k with
 | zero=>omega
 | succ k=>
   simp only [Builtin.clear_]
   simp [run_underlying Tryz.underlying55,hz,Value.cells,zeroCells_flat,hst]
end Go.Proofs.YthohnjgnpapnoaaGreatDoor
namespace Go.Proofs.YthohnjgnpapnoaaGreatDoor
open Go.RowKit
def qd (h x y:Int) (c:Int×Int):Nat:=(if x+h≤c.1 then 1 else 0)+(if y+h≤c.2 then 2 else 0)
def gx (h x:Int) (k:Nat):Int:=if k=1∨k=3 then x+h else x
def gy (h y:Int) (k:Nat):Int:=if k=2∨k=3 then y+h else y
theorem qd_lt (h x y:Int) (c:Int×Int):qd h x y c<4:=by unfold qd;split<;>split<;>omega
def part (h x y:Int) (k:Nat) (l:List (Int×Int)):List (Int×Int):=l.filter fun c=>decide (qd h x y c=k)
theorem part_snoc (h x y:Int) (k:Nat) (l:List (Int×Int)) (c:Int×Int):part h x y k (l++ [c])=if qd h x y c=k then part h x y k l++ [c] else part h x y k l:=by
 unfold part
 rw [List.filter_append]
 by_cases e:qd h x y c=k
 ·rw [if_pos e];simp [e]
 ·rw [if_neg e];simp [e]
theorem part_len (h x y:Int) (k:Nat) (l:List (Int×Int)):(part h x y k l).length≤l.length:=List.length_filter_le _ _
theorem part_mem {h x y:Int} {k:Nat} {l:List (Int×Int)} {c:Int×Int}:c∈part h x y k l↔c∈l∧qd h x y c=k:=by
 unfold part;rw [List.mem_filter,decide_eq_true_eq]
theorem qd_in {n:Nat} {x y a b:Int} {k:Nat} (hb:inB (n+1) x y a b):qd (2^n) x y (a,b)=k↔k<4∧inB n (gx (2^n) x k) (gy (2^n) y k) a b:=by
 have hp:=pow_pos2 n
 unfold inB at hb ⊢
 rw [Int.pow_succ] at hb
 unfold qd gx gy
 generalize (2:Int)^n=h at*
 constructor
 ·intro e
  subst e
  by_cases h1:x+h≤a<;>by_cases h2:y+h≤b<;>simp [h1,h2]<;>omega
 ·rintro ⟨hk,e⟩
  rcases (by omega:k=0∨k=1∨k=2∨k=3) with rfl | rfl | rfl | rfl
  ·simp at e;rw [if_neg (by omega),if_neg (by omega)]
  ·simp at e;rw [if_pos (by omega),if_neg (by omega)]
  ·simp at e;rw [if_neg (by omega),if_pos (by omega)]
  ·simp at e;rw [if_pos (by omega),if_pos (by omega)]
theorem sub_in {n:Nat} {x y a b:Int} {k:Nat} (hk:k<4) (hb:inB n (gx (2^n) x k) (gy (2^n) y k) a b):inB (n+1) x y a b:=by
 rw [inB.up]
 rcases (by omega:k=0∨k=1∨k=2∨k=3) with rfl | rfl | rfl | rfl
 ·exact .inl hb
 ·exact .inr (.inl hb)
 ·exact .inr (.inr (.inl hb))
 ·exact .inr (.inr (.inr hb))
theorem tree_part {n:Nat} {x y:Int} {l:List (Int×Int)} {k:Nat} (hk:k<4):treeOf (setOfL (part (2^n) x y k l)) n (gx (2^n) x k) (gy (2^n) y k)=treeOf (setOfL l) n (gx (2^n) x k) (gy (2^n) y k):=
 treeOf_congr fun a b hb=>by
  unfold setOfL
  rw [decide_eq_decide,part_mem]
  exact ⟨fun h=>h.1,fun h=>⟨h,(qd_in (sub_in hk hb)).2 ⟨hk,hb⟩⟩⟩
theorem part_in {n:Nat} {x y:Int} {l:List (Int×Int)} {k:Nat} (hin:∀c∈l,inB (n+1) x y c.1 c.2):∀c∈part (2^n) x y k l,inB n (gx (2^n) x k) (gy (2^n) y k) c.1 c.2:=fun c hc=>by
 obtain ⟨h1,h2⟩:=part_mem.1 hc
 exact ((qd_in (hin c h1)).1 h2).2
def partT (l:List (Int×Int)) (n:Nat) (x y:Int) (k:Nat):Tree:=treeOf (setOfL l) n (gx (2^n) x k) (gy (2^n) y k)
theorem partT_all (l:List (Int×Int)) (n:Nat) (x y:Int):treeOf (setOfL l) (n+1) x y= .node (partT l n x y 0) (partT l n x y 1) (partT l n x y 2) (partT l n x y 3):=by
 simp [treeOf,partT,gx,gy]
theorem partT_lvl (l:List (Int×Int)) (n:Nat) (x y:Int) (k:Nat):(partT l n x y k).lvl=n:=treeOf_lvl _ _ _ _
theorem gx_bd {n:Nat} {x:Int} (k:Nat) (h: -35184372088832≤x∧x+2^(n+1)≤35184372088832): -35184372088832≤gx (2^n) x k∧gx (2^n) x k+2^n≤35184372088832:=by
 have:=pow_pos2 n
 rw [Int.pow_succ] at h
 unfold gx;split<;>omega
theorem gy_bd {n:Nat} {y:Int} (k:Nat) (h: -35184372088832≤y∧y+2^(n+1)≤35184372088832): -35184372088832≤gy (2^n) y k∧gy (2^n) y k+2^n≤35184372088832:=by
 have:=pow_pos2 n
 rw [Int.pow_succ] at h
 unfold gy;split<;>omega
def VC (V:Nat→Value):Array Value:=#[V 0,V 1,V 2,V 3]
theorem VC_set (V:Nat→Value) {k:Nat} (hk:k<4) (v:Value):(VC V).setIfInBounds k v=VC (upd V k v):=by
 rcases (by omega:k=0∨k=1∨k=2∨k=3) with rfl | rfl | rfl | rfl<;>rfl
theorem VC_get (V:Nat→Value) {k:Nat} (hk:k<4):(VC V)[k]? =some (V k):=by
 rcases (by omega:k=0∨k=1∨k=2∨k=3) with rfl | rfl | rfl | rfl<;>rfl
abbrev CT:=109
structure PartI (w:World) (h x y:Int) (l:List (Int×Int)) (V:Nat→Value) (i:Nat) (wx:World):Prop where
 blk:Blk wx w.heap.size 228 (VC V)
 sl:∀k,k<4→Sl wx CT 2 (V k) (part h x y k (l.take i)).length (flat (part h x y k (l.take i)))
 fr:∀k,k<4→∀b,sblk (V k)=some b→w.heap.size<b
 ds:∀k k',k<4→k'<4→k≠k'→∀b,sblk (V k)=some b→sblk (V k')≠some b
 bl:Below w.heap.size w wx
section
variable {w wx wy w1 : World} {h x y : Int} {l : List (Int × Int)} {V : Nat → Value} {i : Nat}
theorem PartI.start (w:World) (h x y:Int) (l:List (Int×Int)):PartI w h x y l (fun _=>nilV) 0 (w.alloc (.cells #[nilV,nilV,nilV,nilV] 228)):=
 ⟨Blk.new w _ _,fun k hk=>by rw [show part h x y k (l.take 0)= [] by simp [part]];exact Sl.nil _ _ _,fun k _ b hb=>by simp [nilV,sblk] at hb,fun k k' _ _ _ b hb=>by simp [nilV,sblk] at hb,(Below.refl _ _).alloc (Nat.le_refl _) _⟩
theorem PartI.below (hp:PartI w h x y l V i wx) (hb:Below wx.heap.size wx wy):PartI w h x y l V i wy:=
 ⟨hp.blk.mod (Mod.of_below_all hb) (fun h=>h),fun k hk=>(hp.sl k hk).mod (Mod.of_below_all hb) (fun _ _ h=>h),hp.fr,hp.ds,hp.bl.trans (hb.mono hp.bl.size)⟩
theorem PartI.step (hp:PartI w h x y l V i wx) {c:Int×Int} (hc:l[i]? =some c) {k:Nat} (hk:qd h x y c=k) {v':Value} (hb:Below wx.heap.size wx wy) (hm:Mod (fun b=>sblk (V k)=some b) wy w1)
 (hs:Sl w1 CT 2 v' ((part h x y k (l.take i)).length+1) (flat (part h x y k (l.take i))++flat [c])) (hd:sblk v'=sblk (V k)∨sblk v'=some wy.heap.size∧wy.heap.size<w1.heap.size):
 PartI w h x y l (upd V k v') (i+1) (w1.setCell ⟨w.heap.size,k,none⟩ v'):=by
 have hk4:k<4:=by rw [←hk];exact qd_lt h x y c
 have hq:=hp.below hb
 have ht:l.take (i+1)=l.take i++ [c]:=by
  obtain ⟨hl,rfl⟩:=List.getElem?_eq_some_iff.1 hc
  exact List.take_succ_eq_append_getElem hl
 have hpb:w.heap.size<wy.heap.size:=hq.blk.lt
 have hfv:∀b,sblk v'=some b→w.heap.size<b:=fun b e=>by
  rcases hd with d | ⟨d,_⟩
  ·exact hq.fr k hk4 b (d▸e)
  ·rw [d] at e;injection e with e;omega
 have hkb:sblk (V k)≠some w.heap.size:=fun e=>Nat.lt_irrefl _ (hq.fr k hk4 _ e)
 refine ⟨?_,fun j hj=>?_,fun j hj b hb=>?_,fun j j' hj hj' hne b hb=>?_,?_⟩
 ·rw [←VC_set V hk4]
  exact (hq.blk.mod hm hkb).set k _
 ·rw [ht,part_snoc]
  by_cases e:j=k
  ·subst e
   rw [upd_same,if_pos hk,flat_append,List.length_append]
   exact hs.far (p:=⟨w.heap.size,j,none⟩) (fun e=>Nat.lt_irrefl _ (hfv _ e)) _
  ·rw [upd_ne _ _ e,if_neg (fun q:qd h x y c=j=>e (q.symm.trans hk))]
   refine ((hq.sl j hj).mod hm fun b hb h2=>?_).far (p:=⟨w.heap.size,k,none⟩) (fun h=>Nat.lt_irrefl _ (hq.fr j hj _ h)) _
   exact hq.ds j k hj hk4 e b hb h2
 ·by_cases e:j=k
  ·subst e;rw [upd_same] at hb;exact hfv b hb
  ·rw [upd_ne _ _ e] at hb;exact hq.fr j hj b hb
 ·have key:∀j,j<4→j≠k→∀b,sblk v'=some b→sblk (V j)≠some b:=fun j hj e b hb h2=>by
   rcases hd with d | ⟨d,_⟩
   ·exact hq.ds k j hk4 hj (Ne.symm e) b (d▸hb) h2
   ·rw [d] at hb;injection hb with hb
    have:=((hq.sl j hj).lt h2).1;omega
  by_cases e:j=k
  ·subst e
   rw [upd_same] at hb
   rw [upd_ne _ _ (Ne.symm hne)]
   exact key j' hj' (Ne.symm hne) b hb
  ·rw [upd_ne _ _ e] at hb
   by_cases e':j'=k
   ·subst e'
    rw [upd_same]
    intro h2
    exact key j hj e b h2 hb
   ·rw [upd_ne _ _ e'];exact hq.ds j j' hj hj' hne b hb
 ·exact (hq.bl.trans (hm.below hq.bl.size fun b hb h2=>by have:=hq.fr k hk4 b h2;omega)).setCell (p:=⟨w.heap.size,k,none⟩) (Nat.le_refl _) _
theorem PartI.app (hp:PartI w h x y l V i wx) {c:Int×Int} (hc:l[i]? =some c) {k:Nat} (hk:qd h x y c=k) {v v':Value} (hV:V k=v) {L:Nat} (hL:(part h x y k (l.take i)).length=L) (hb:Below wx.heap.size wx wy) (hm:Mod (fun b=>sblk v=some b) wy w1)
 (hs:Sl w1 CT 2 v' (L+1) (flat (part h x y k (l.take i))++flat [c])) (hd:sblk v'=sblk v∨sblk v'=some wy.heap.size∧wy.heap.size<w1.heap.size):
 w1.cell? ⟨w.heap.size,k,none⟩=some v∧w1.frozen? ⟨w.heap.size,k,none⟩=false∧PartI w h x y l (upd V k v') (i+1) (w1.setCell ⟨w.heap.size,k,none⟩ v'):=by
 subst hV hL
 have hk4:k<4:=by rw [←hk];exact qd_lt h x y c
 have hq:=hp.below hb
 have hkb:sblk (V k)≠some w.heap.size:=fun e=>Nat.lt_irrefl _ (hq.fr k hk4 _ e)
 have hbl:=hq.blk.mod hm hkb
 exact ⟨hbl.cellS (VC_get V hk4),hbl.frozen k,hp.step hc hk hb hm hs hd⟩
end
end Go.Proofs.YthohnjgnpapnoaaGreatDoor
