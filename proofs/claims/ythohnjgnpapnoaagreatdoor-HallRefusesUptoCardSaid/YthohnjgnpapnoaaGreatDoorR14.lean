/- leap: large and result, by induction on the level. · leap: result. · quad: build. · cmp.Compare, cmp.Or of two, plane.order, plane.within: what they answer. · DERIVED: THE SHELF's CONTRACTS AT THIS DUMP, IN PLAIN WORDS (tools/lay-plain.mjs out of 'YthohnjgnpapnoaaGreatDoorSortShelf.lean', which tools/lay-shelf.mjs wrote): THE SAME DECLARATIONS UNDER THE SAME NAMES: 'import', 'namespace', 'open', 'def', 'theorem' AND NOTHING ELSE: no command of the shelf's: FOR A HAND-IN. Each laying: the table of numbers ('.._ren') and one theorem, a field a fact of the dump's own or the kernel's comparison; each contract: ONE APPLICATION. -/
import Derived.Test.YthohnjgnpapnoaaGreatDoorR13
import Derived.Deep.CutBlock
import Derived.Deep.DeepCutAuto
import Derived.Test.YthohnjgnpapnoaaGreatDoorR12
import Derived.Test.YthohnjgnpapnoaaGreatDoorRows
import Derived.Test.YthohnjgnpapnoaaGreatDoorR1
import Derived.WalkKit
import Derived.WalkSpells
import Derived.BigQuiet
import Derived.Deep.QuietTactic
import Derived.Deep.RegionHeld3
import Derived.Shelf.SlSortCmp.WholeK
import Derived.Shelf.SlGeneric
import Derived.Ground.SlsfProg
import Derived.Test.YthohnjgnpapnoaaGreatDoorProg
set_option linter.unusedVariables false
set_option linter.unusedSimpArgs false
namespace Go.Proofs.YthohnjgnpapnoaaGreatDoor
open Go.RowKit
def dL (b l:Int) (n:Nat) (T:Tree) (j:Int) (i:Nat):List Thing:=if j=((n+1:Nat):Int) then [sqOf (fourT (gT T) (i/3) (i%3)),Thing.note (fourT (gT T) (i/3) (i%3)) (codeR b l) (j-1)] else [sqOf (fourT (gT T) (i/3) (i%3)),sqOf (midT (fourT (gT T) (i/3) (i%3)))]
def eL (b l:Int) (n:Nat) (T:Tree) (j:Int) (k:Nat):List Thing:=[sqOf (fourT (nineT b l n T j) (k/2) (k%2)),Thing.note (fourT (nineT b l n T j) (k/2) (k%2)) (codeR b l) (if j=((n+1:Nat):Int) then j-1 else j)]
theorem llarge_any (b l:Int) (n:Nat) (hn:n+3≤44) (hres:ResOk b l n) (w:World) (hb p:Nat) (R:ArR) (S:ArS) (A:Nat→Abs) (t:Nat) (bad:Int) (h:Lp w hb p R S A t b l bad)
 (G:Nat→Int) (T:Tree) (hT:Pf (n+3) T) (hG:bad=0→∀y x,y<4→x<4→Has S A t (G (y*4+x)) (gT T y x)) (j:Int) (hj0:0≤j) (hj:j≤((n+1:Nat):Int)):
 Calls Tryz.prog 216 #[.pointer (some ⟨hb,0,none⟩),.agg (gC G),.int .i64 ((n:Int)+3),.int .i64 j] w (LpPostK w hb p R S A t b l bad (resT b l (n+1) T j) (Clo b l (n+1) T j) (Inn b l (codeR b l) (n+1) T j)):=by
 have hfull:(j==(n:Int)+3-2)=decide (j=((n+1:Nat):Int)):=by
  by_cases e:j=((n+1:Nat):Int)
  ·rw [decide_eq_true e];simp;omega
  ·rw [decide_eq_false e];simp;omega
 have hE:resT b l (n+1) T j=fourT (fun y x=>resT b l n (fourT (nineT b l n T j) y x) (if j=((n+1:Nat):Int) then j-1 else j)) 0 0:=resT_succ b l n T j
 have nine:∀y x,Pf (n+1) (nineT b l n T j y x):=fun y x=>nine_pf hT j y x
 have hD9:∀y x,x<3→(dL b l n T j) (3*y+x)=if j=((n+1:Nat):Int) then [sqOf (fourT (gT T) y x),Thing.note (fourT (gT T) y x) (codeR b l) (j-1)] else [sqOf (fourT (gT T) y x),sqOf (midT (fourT (gT T) y x))]:=fun y x hx=>by
  unfold dL
  rw [show (3*y+x)/3=y by omega,show (3*y+x)%3=x by omega]
 have hE4:∀y x,x<2→(eL b l n T j) (2*y+x)= [sqOf (fourT (nineT b l n T j) y x),Thing.note (fourT (nineT b l n T j) y x) (codeR b l) (if j=((n+1:Nat):Int) then j-1 else j)]:=fun y x hx=>by
  unfold eL
  rw [show (2*y+x)/2=y by omega,show (2*y+x)%2=x by omega]
 refine llarge_walk w hb p R S A t b l bad h (Clo b l (n+1) T j) (Inn b l (codeR b l) (n+1) T j) G (fun i=>nineT b l n T j (i/3) (i%3)) (dL b l n T j) (fun y x=>fourT (gT T) y x) (fun y x=>fourT (nineT b l n T j) y x)
  (fun k=>resT b l n (fourT (nineT b l n T j) (k/2) (k%2)) (if j=((n+1:Nat):Int) then j-1 else j)) (eL b l n T j) (resT b l (n+1) T j) n hn j hj0 (by omega) (decide (j=((n+1:Nat):Int))) hfull ?_ ?_
 rotate_left
 ·intro W h9 h4 hw
  refine ⟨fun y x hy hx=>?_,fun y x hy hx=>?_,?_⟩
  ·have h1:=h9 (3*y+x) (by omega)
   rw [hD9 y x hx] at h1
   by_cases e:j=((n+1:Nat):Int)
   ·rw [if_pos e] at h1
    exact ⟨h1 _ (List.mem_cons_self ..),fun _=>h1 _ (List.mem_cons_of_mem _ (List.mem_cons_self ..)),fun e2=>absurd e e2⟩
   ·rw [if_neg e] at h1
    exact ⟨h1 _ (List.mem_cons_self ..),fun e2=>absurd e2 e,fun _=>h1 _ (List.mem_cons_of_mem _ (List.mem_cons_self ..))⟩
  ·have h1:=h4 (2*y+x) (by omega)
   rw [hE4 y x hx] at h1
   exact ⟨h1 _ (List.mem_cons_self ..),h1 _ (List.mem_cons_of_mem _ (List.mem_cons_self ..))⟩
  ·rw [resT_succ] at hw ⊢
   exact of_decide_eq_true hw
 have hu:∀y x,x<3→nineT b l n T j ((3*y+x)/3) ((3*y+x)%3)=nineT b l n T j y x:=fun y x hx=>U_at b l n T j y hx
 constructor
 ·intro N m R' S' A' bad' W hW y x hy hx
  exact hW.joinC (F:=gT T) (y:=y) (x:=x) (n:=n+1) (by omega) hT.g (fun e=>⟨hW.has hG e y x (by omega) (by omega),hW.has hG e y (x+1) (by omega) (by omega),hW.has hG e (y+1) x (by omega) (by omega),hW.has hG e (y+1) (x+1) (by omega) (by omega)⟩) (fun V hV=>(hV.2.1 y x hy hx).1)
 ·intro hfl N m R' S' A' bad' W hW y x hy hx r hr
  have hf:j=((n+1:Nat):Int):=of_decide_eq_true hfl
  have:=hW.resC hres (F:=fourT (gT T) y x) (r:=r) (j:=j-1) (Pf.four hT.g) hr (by omega) (by omega) (fun V hV=>(hV.2.1 y x hy hx).2.1 hf)
  rw [hu y x hx,hD9 y x hx,if_pos hf]
  have e:nineT b l n T j y x=resT b l n (fourT (gT T) y x) (j-1):=by unfold nineT;rw [if_pos hf]
  rw [e]
  exact this
 ·intro _ N m R' S' A' bad' W hW y x hy hx r hr
  exact hW.gridC (n:=n) (F:=fourT (gT T) y x) (Pf.four hT.g) hr
 ·intro hfl N m R' S' A' bad' W hW y x hy hx r0 hr0 g hg
  have hf:¬j=((n+1:Nat):Int):=of_decide_eq_false hfl
  have:=hW.midC (n:=n) (F:=fourT (gT T) y x) (g:=g) (by omega) (Pf.four hT.g) hr0 hg (fun V hV=>(hV.2.1 y x hy hx).2.2 hf)
  rw [hu y x hx,hD9 y x hx,if_neg hf]
  have e:nineT b l n T j y x=midT (fourT (gT T) y x):=by unfold nineT;rw [if_neg hf]
  rw [e]
  exact this
 ·intro N R' S' A' bad' W hW y x hy hx
  have key:bad'=0→∀r c,r<3→c<3→Has S' A' t (N (r*3+c)) (nineT b l n T j r c):=fun e r c hr hc=>by
   have:=(hW.told e (3*r+c) (by omega)).1
   rw [hu r c hc] at this
   rw [show r*3+c=3*r+c by omega];exact this
  exact hW.joinC (F:=nineT b l n T j) (y:=y) (x:=x) (n:=n+1) (by omega) nine (fun e=>⟨key e y x (by omega) (by omega),key e y (x+1) (by omega) (by omega),key e (y+1) x (by omega) (by omega),key e (y+1) (x+1) (by omega) (by omega)⟩) (fun V hV=>(hV.2.2.1 y x hy hx).1)
 ·intro N R' S' A' bad' W hW y x hy hx r hr
  have e1:(if decide (j=((n+1:Nat):Int))=true then j-1 else j)=if j=((n+1:Nat):Int) then j-1 else j:=by
   by_cases e:j=((n+1:Nat):Int)
   ·rw [if_pos (decide_eq_true e),if_pos e]
   ·rw [if_neg e,decide_eq_false e];rfl
  have e2:(2*y+x)/2=y:=by omega
  have e3:(2*y+x)%2=x:=by omega
  rw [e1,hE4 y x hx,e2,e3]
  refine hW.resC hres (F:=fourT (nineT b l n T j) y x) (r:=r) (j:=if j=((n+1:Nat):Int) then j-1 else j) (Pf.four nine) hr ?_ ?_ (fun V hV=>(hV.2.2.1 y x hy hx).2)
  ·split<;>omega
  ·split<;>omega
 ·intro N R' S' A' bad' W hW Q hQ
  rw [hE]
  have hpf:∀y x,Pf (n+1) ((fun y x=>resT b l n (fourT (nineT b l n T j) y x) (if j=((n+1:Nat):Int) then j-1 else j)) y x):=fun y x=>Pf.res (Pf.four nine)
  exact hW.joinC (F:=fun y x=>resT b l n (fourT (nineT b l n T j) y x) (if j=((n+1:Nat):Int) then j-1 else j)) (y:=0) (x:=0) (n:=n+1) (by omega) hpf (fun e=>⟨(hQ e 0 (by decide)).1,(hQ e 1 (by decide)).1,(hQ e 2 (by decide)).1,(hQ e 3 (by decide)).1⟩) (fun V hV=>by have:=hV.2.2.2;rw [hE] at this;exact this)
section
variable {w wx w1 : World} {hb p : Nat} {R R1 R' : ArR} {S S' : ArS} {A A' : Nat → Abs} {t : Nat} {b l bad bad' : Int} {n : Nat} {T : Tree} {id j : Int}
theorem lp_noted (h:Lp w hb p R S A t b l 0) (hg:goodR b l) (hT:Pf (n+2) T) (hh:Has S A t id T) {v:Int} (hv:Has S A t v (resT b l n T j)) (hin:Inn b l (codeR b l) n T j (A t).have_) (hj:i64r j):
 Calls Tryz.prog 218 #[.pointer (some ⟨p,0,none⟩),.int .i64 t,.int .i64 id,.int .i64 (codeR b l),.int .i64 j,.int .i64 v] w fun e w'=>
  ∃(x:Int) (S':ArS) (A':Nat→Abs) (R':ArR),e= .returned (.int .i64 x)∧Grew t (fun V=>Thing.note T (codeR b l) j∈V) S A 0 S' A' x∧Lp w' hb p R' S' A' t b l 0∧StepH (fun b=>b=hb) p R R' w w'∧(x=0→Thing.note T (codeR b l) j∈(A' t).have_):=by
 have hc:i64r (codeR b l):=by
  obtain ⟨⟨b0,b1⟩,⟨l0,l1⟩,_⟩:=hg
  exact ⟨by unfold codeR;omega,by unfold codeR;omega⟩
 refine (note_any w p R S h.arm h.inv h.rel.live t h.ht h.few id (codeR b l) j v hc hj).mono fun e w' hp=>?_
 obtain ⟨x,S',R',rfl,hn,ha,hs⟩:=hp
 obtain ⟨A',g,g2⟩:=h.rel.noteG h.ht hg hT hh hv hin hj hn
 exact ⟨x,S',A',R',rfl,g,h.arena ha hs g.st,hs.toH _,g2⟩
theorem lp_recall (h:Lp w hb p R S A t b l 0) (hg:goodR b l) (hT:Pf (n+2) T) (hh:Has S A t id T) (hj:i64r j):
 Calls Tryz.prog 212 #[.pointer (some ⟨p,0,none⟩),.int .i64 t,.int .i64 id,.int .i64 (codeR b l),.int .i64 j] w fun e w'=>
  ∃(v:Int) (is:Bool),e= .returned (.tuple #[.int .i64 v,.bool is])∧(is=true→Has S A t v (resT b l n T j)∧Thing.note T (codeR b l) j∈(A t).have_)∧Lp w' hb p R S A t b l 0∧StepH (fun b=>b=hb) p R R w w':=by
 have hc:i64r (codeR b l):=by
  obtain ⟨⟨b0,b1⟩,⟨l0,l1⟩,_⟩:=hg
  exact ⟨by unfold codeR;omega,by unfold codeR;omega⟩
 refine (recall_any w p R S h.arm h.inv t h.ht id (codeR b l) j (hh.1.i64 h.inv) hc hj).mono fun e w' hp=>?_
 obtain ⟨v,is,rfl,h1,h2,ha,hs⟩:=hp
 refine ⟨v,is,rfl,fun hi=>?_,h.arena ha hs (St.refl h.rel t),hs.toH _⟩
 obtain ⟨i,e,g1,g2,rfl⟩:=h2 hi
 obtain ⟨i',g3,g4⟩:=h1.1 hi
 have:i=i':=by rw [g1] at g3;have:=Option.some.inj g3;omega
 subst this
 exact h.rel.recalled h.ht hg hT hh g1 g2 g4
end
def InnerOk (b l:Int) (n:Nat) (f:FuncId) (more:List Value) (T:Tree) (j:Int):Prop:=∀(w:World) (hb p:Nat) (R:ArR) (S:ArS) (A:Nat→Abs) (t:Nat),Lp w hb p R S A t b l 0→∀(G:Nat→Int),(∀y x,y<4→x<4→Has S A t (G (y*4+x)) (gT T y x))→
 Calls Tryz.prog f (.pointer (some ⟨hb,0,none⟩):: .agg (gC G)::more).toArray w (LpPostK w hb p R S A t b l 0 (resT b l n T j) (Clo b l n T j) (Inn b l (codeR b l) n T j))
theorem inner_zero {b l:Int} (hg:goodR b l) {T:Tree} (hT:Pf 2 T) (j:Int):InnerOk b l 0 215 [] T j:=fun w hb p R S A t h G hG=>by
 have hl:∀y x,y<4→x<4→gT T y x= .dead∨gT T y x= .alive:=fun y x _ _=>Pf.g (n:=0) hT y x
 refine (lsmall_any w hb p R S A t b l h hg G (gT T) (fun y x hy hx=>?_) hl).mono fun e w' hp=>?_
 ·have:=(hG y x hy hx).1
  rcases hl y x hy hx with q | q
  ·rw [q] at this ⊢;simp only [Den] at this;exact this
  ·rw [q] at this ⊢;simp only [Den] at this;exact this
 ·obtain ⟨r,S',A',R',bad',rfl,g1,g2,g3,g4⟩:=hp
  exact ⟨r,S',A',R',bad',rfl,g1.mono fun V hV=>hV.2,g2,g3,g4,fun e=>(g2 e).sq⟩
end Go.Proofs.YthohnjgnpapnoaaGreatDoor
namespace Go.Proofs.YthohnjgnpapnoaaGreatDoor
open Go.RowKit
set_option maxRecDepth 100000 in
set_option maxHeartbeats 6400000 in
theorem result_walk (b l:Int) (hg:goodR b l) (n:Nat) (hn:n≤42) (h0:n=0→∀T j,Pf 2 T→InnerOk b l 0 215 [] T j)
 (h1:∀m,n=m+1→∀T j,Pf (m+3) T→0≤j→j≤((m+1:Nat):Int)→InnerOk b l (m+1) 216 [.int .i64 ((m:Int)+3),.int .i64 j] T j):ResOk b l n:=by
 intro w hb p R S A t bad h id T j hT hq hj0 hj
 have H:=Lib.hid h
 have HT:=Lib.hid hT
 have c4:=h.c4
 by_cases hb0:bad=0
 ·subst hb0
  have hj64:i64r j:=⟨by omega,by omega⟩
  have HHS:=Lib.hid (hq rfl)
  have HJ:=Lib.hid hj64
  have HJ0:=Lib.hid hj0
  have HJN:=Lib.hid hj
  have HCD:=Lib.hid (fun w=>lcode_any w b l hg)
  have HRC:=Lib.hid (fun W (hW:Lp W hb p R S A t b l 0)=>lp_recall hW hg hT (hq rfl) hj64)
  have HGR:=Lib.hid (fun W (hW:Lp W hb p R S A t b l 0)=>lgrid_any W hb p R S A t b l 0 hW id T n hT (fun _=>hq rfl))
  have HGD:=Lib.hid hg
  have c0:=h.c0
  have c1:=h.c1
  have c2:=h.c2
  have c3:=h.c3
  have H0:=Lib.hid h0
  have H1:=Lib.hid h1
  clear h hT hq hj0 hj hj64 h0 h1
  go_enter Tryz.func193,Tryz.ntmps193
  go_wp2_with fail
  go_cut [9,10] (fun vv iv wx=>∃(v:Int) (is:Bool),vv= .int .i64 v∧iv= .bool is∧(is=true→Has S A t v (resT b l n T j)∧Thing.note T (codeR b l) j∈(A t).have_)∧Lp wx hb p R S A t b l 0∧StepH (fun b=>b=hb) p R R w wx)
  case first=>
   go_region_held3 (fun w'=>w'.cell? ⟨hb,0,none⟩=some (.pointer (some ⟨p,0,none⟩))∧w'.cell? ⟨hb,1,none⟩=some (.int .i64 t)∧w'.cell? ⟨hb,2,none⟩=some (.int .i64 b)∧w'.cell? ⟨hb,3,none⟩=some (.int .i64 l))
    (first | (with_reducible exact ⟨c0,c1,c2,c3⟩) | (with_reducible exact ⟨e0,e1,e2,e3⟩) | (with_reducible exact ⟨g0,g1,g2,g3⟩) | go_keep)
    (first
      | (go_at_call 213;with_reducible refine (HCD.out _).mono ?_;rintro e w3 ⟨rfl,hbc⟩;have HP3:=Lib.hid (H.out.drew.below (w':=w3) ⟨hbc.os,hbc.tape,hbc.output,hbc.size,hbc.block⟩);have e0:=HP3.out.c0;have e1:=HP3.out.c1;have e2:=HP3.out.c2;have e3:=HP3.out.c3)
      | (go_at_call 212;with_reducible refine (HRC.out _ HP3.out).mono ?_;rintro e w4 ⟨v,is,rfl,hv,hp4,hs4⟩;have g0:=hp4.c0;have g1:=hp4.c1;have g2:=hp4.c2;have g3:=hp4.c3))
   all_goals (
    clear c0 c1 c2 c3 e0 e1 e2 e3 g0 g1 g2 g3
    go_wp2_with fail
    go_meet
    exact ⟨v,is,rfl,rfl,hv,hp4,((StepH.refl (fun b=>b=hb) p R w).drew.trans (StepH.of_below hbc)).trans hs4⟩)
  case rest=>
   obtain ⟨v,is,rfl,rfl,hv,hp,hs⟩:=hcut
   have HV:=Lib.hid hv
   have HP:=Lib.hid hp
   have HSS:=Lib.hid hs
   clear hv hp hs c0 c1 c2 c3 HRC
   cases is
   ·go_wp2_with fail
    (with_reducible refine (HGR.out _ HP.out).mono ?_)
    rintro e w5 ⟨G,rfl,hG,hp5,hs5⟩
    have HG5:=Lib.hid (hG rfl)
    have HP5:=Lib.hid hp5
    have HS5:=Lib.hid (HSS.out.trans hs5)
    clear hG hp5 hs5 HV HGR HP HSS
    rcases n with _ | m
    ·have HIN:=Lib.hid (H0.out rfl T j HT.out)
     unfold gC
     go_wp2_with fail
     have HP6:=Lib.hid (HP5.out.alloc (.cells #[.int .i64 (G 0),.int .i64 (G 1),.int .i64 (G 2),.int .i64 (G 3),.int .i64 (G 4),.int .i64 (G 5),.int .i64 (G 6),.int .i64 (G 7),.int .i64 (G 8),.int .i64 (G 9),.int .i64 (G 10),.int .i64 (G 11),.int .i64 (G 12),.int .i64 (G 13),.int .i64 (G 14),.int .i64 (G 15)] 302))
     have HS6:=Lib.hid (HS5.out.alloc (.cells #[.int .i64 (G 0),.int .i64 (G 1),.int .i64 (G 2),.int .i64 (G 3),.int .i64 (G 4),.int .i64 (G 5),.int .i64 (G 6),.int .i64 (G 7),.int .i64 (G 8),.int .i64 (G 9),.int .i64 (G 10),.int .i64 (G 11),.int .i64 (G 12),.int .i64 (G 13),.int .i64 (G 14),.int .i64 (G 15)] 302))
     generalize World.alloc w5 _=w6 at HP6 HS6 ⊢
     have HC:Hid (Calls Tryz.prog 215 #[.pointer (some ⟨hb,0,none⟩),.agg #[.int .i64 (G 0),.int .i64 (G 1),.int .i64 (G 2),.int .i64 (G 3),.int .i64 (G 4),.int .i64 (G 5),.int .i64 (G 6),.int .i64 (G 7),.int .i64 (G 8),.int .i64 (G 9),.int .i64 (G 10),.int .i64 (G 11),.int .i64 (G 12),.int .i64 (G 13),.int .i64 (G 14),.int .i64 (G 15)]] w6 (LpPostK w6 hb p R S A t b l 0 (resT b l 0 T j) (Clo b l 0 T j) (Inn b l (codeR b l) 0 T j))):=HIN.out w6 hb p R S A t HP6.out G HG5.out
     clear HIN HG5 HP5 HS5
     (with_reducible refine HC.out.mono ?_)
     intro e w7 hq
     unfold LpPostK at hq
     obtain ⟨r,S7,A7,R7,bad7,rfl,hg7,hh7,hp7,hs7,hk7⟩:=hq
     have HK7:=Lib.hid hk7
     have HG7:=Lib.hid hg7
     have HH7:=Lib.hid hh7
     have HP7:=Lib.hid hp7
     have HS7:=Lib.hid (HS6.out.trans hs7)
     have c4:=hp7.c4
     clear hg7 hh7 hp7 hs7 hk7 HC HP6 HS6
     by_cases hb7:bad7=0
     ·subst hb7
      have c0:=HP7.out.c0
      have c1:=HP7.out.c1
      have c2:=HP7.out.c2
      have c3:=HP7.out.c3
      have HID:Hid (Has S7 A7 t id T):=HHS.out.st H.out.ht HG7.out.st
      have HNT:=Lib.hid (fun W (hW:Lp W hb p R7 S7 A7 t b l 0)=>lp_noted hW HGD.out HT.out HID.out (HH7.out rfl) (HK7.out rfl) HJ.out)
      go_wp2_with fail
      go_region_held3 (fun w'=>w'.cell? ⟨hb,0,none⟩=some (.pointer (some ⟨p,0,none⟩))∧w'.cell? ⟨hb,1,none⟩=some (.int .i64 t)∧w'.cell? ⟨hb,2,none⟩=some (.int .i64 b)∧w'.cell? ⟨hb,3,none⟩=some (.int .i64 l))
       (first | (with_reducible exact ⟨c0,c1,c2,c3⟩) | (with_reducible exact ⟨e0,e1,e2,e3⟩) | (with_reducible exact ⟨g0,g1,g2,g3⟩) | (with_reducible exact ⟨i0,i1,i2,i3⟩) | go_keep)
       (first
         | (go_at_call 213;with_reducible refine (HCD.out _).mono ?_;rintro e w8 ⟨rfl,hbc⟩;have HP8:=Lib.hid (HP7.out.drew.below (w':=w8) ⟨hbc.os,hbc.tape,hbc.output,hbc.size,hbc.block⟩);have e0:=HP8.out.c0;have e1:=HP8.out.c1;have e2:=HP8.out.c2;have e3:=HP8.out.c3)
         | (go_at_call 218;with_reducible refine (HNT.out _ HP8.out).mono ?_;rintro e w9 ⟨x,S9,A9,R9,rfl,hg9,hp9,hs9,hk9⟩;have HK9:=Lib.hid hk9;have g0:=hp9.c0;have g1:=hp9.c1;have g2:=hp9.c2;have g3:=hp9.c3)
         | (go_at_call 217;with_reducible refine (lfail_any _ hb p R9 S9 A9 t b l 0 x hp9).mono ?_;rintro e w10 ⟨rfl,hp10,hs10,_⟩;rw [if_pos rfl] at hp10;have i0:=hp10.c0;have i1:=hp10.c1;have i2:=hp10.c2;have i3:=hp10.c3))
      all_goals (
       have HX:=Lib.hid (And.intro hp10 (((HS7.out.drew.trans (StepH.of_below (w':=w8) ⟨hbc.os,hbc.tape,hbc.output,hbc.size,hbc.block⟩)).trans hs9).trans hs10))
       have HY:=Lib.hid (HG7.out.trans (hg9.mono fun V hV=>Clo.note hV))
       have HZ:Hid (x=0→Has S9 A9 t r _):=fun _=>(by first | exact (HH7.out rfl).st H.out.ht hg9.st | exact (HH7.out trivial).st H.out.ht hg9.st)
       clear c0 c1 c2 c3 e0 e1 e2 e3 g0 g1 g2 g3 i0 i1 i2 i3 hp9 hs9 hg9 hp10 hs10 hk9
       go_wp2_with fail
       go_returns
       exact ⟨r,S9,A9,R9,x,rfl,HY.out,HZ.out,HX.out.1,HX.out.2,HK9.out⟩)
     ·have hb8:(bad7==0)=false:=beq_eq_false_iff_ne.2 hb7
      have HB7:=Lib.hid hb7
      clear hb7
      go_wp2_with fail
      go_returns
      exact ⟨r,S7,A7,R7,bad7,rfl,HG7.out,fun e=>absurd e HB7.out,HP7.out,HS7.out,fun e=>absurd e HB7.out⟩
    ·have HIN:=Lib.hid (H1.out m rfl T j HT.out HJ0.out HJN.out)
     have hlv:(m:Int)+1+2=(m:Int)+3:=by omega
     unfold gC
     go_wp2_with fail
     have HP6:=Lib.hid (HP5.out.alloc (.cells #[.int .i64 (G 0),.int .i64 (G 1),.int .i64 (G 2),.int .i64 (G 3),.int .i64 (G 4),.int .i64 (G 5),.int .i64 (G 6),.int .i64 (G 7),.int .i64 (G 8),.int .i64 (G 9),.int .i64 (G 10),.int .i64 (G 11),.int .i64 (G 12),.int .i64 (G 13),.int .i64 (G 14),.int .i64 (G 15)] 302))
     have HS6:=Lib.hid (HS5.out.alloc (.cells #[.int .i64 (G 0),.int .i64 (G 1),.int .i64 (G 2),.int .i64 (G 3),.int .i64 (G 4),.int .i64 (G 5),.int .i64 (G 6),.int .i64 (G 7),.int .i64 (G 8),.int .i64 (G 9),.int .i64 (G 10),.int .i64 (G 11),.int .i64 (G 12),.int .i64 (G 13),.int .i64 (G 14),.int .i64 (G 15)] 302))
     generalize World.alloc w5 _=w6 at HP6 HS6 ⊢
     have HC:Hid (Calls Tryz.prog 216 #[.pointer (some ⟨hb,0,none⟩),.agg #[.int .i64 (G 0),.int .i64 (G 1),.int .i64 (G 2),.int .i64 (G 3),.int .i64 (G 4),.int .i64 (G 5),.int .i64 (G 6),.int .i64 (G 7),.int .i64 (G 8),.int .i64 (G 9),.int .i64 (G 10),.int .i64 (G 11),.int .i64 (G 12),.int .i64 (G 13),.int .i64 (G 14),.int .i64 (G 15)],.int .i64 ((m:Int)+3),.int .i64 j] w6 (LpPostK w6 hb p R S A t b l 0 (resT b l (m+1) T j) (Clo b l (m+1) T j) (Inn b l (codeR b l) (m+1) T j))):=HIN.out w6 hb p R S A t HP6.out G HG5.out
     clear HIN HG5 HP5 HS5
     (with_reducible refine HC.out.mono ?_)
     intro e w7 hq
     unfold LpPostK at hq
     obtain ⟨r,S7,A7,R7,bad7,rfl,hg7,hh7,hp7,hs7,hk7⟩:=hq
     have HK7:=Lib.hid hk7
     have HG7:=Lib.hid hg7
     have HH7:=Lib.hid hh7
     have HP7:=Lib.hid hp7
     have HS7:=Lib.hid (HS6.out.trans hs7)
     have c4:=hp7.c4
     clear hg7 hh7 hp7 hs7 hk7 HC HP6 HS6
     by_cases hb7:bad7=0
     ·subst hb7
      have c0:=HP7.out.c0
      have c1:=HP7.out.c1
      have c2:=HP7.out.c2
      have c3:=HP7.out.c3
      have HID:Hid (Has S7 A7 t id T):=HHS.out.st H.out.ht HG7.out.st
      have HNT:=Lib.hid (fun W (hW:Lp W hb p R7 S7 A7 t b l 0)=>lp_noted hW HGD.out HT.out HID.out (HH7.out rfl) (HK7.out rfl) HJ.out)
      go_wp2_with fail
      go_region_held3 (fun w'=>w'.cell? ⟨hb,0,none⟩=some (.pointer (some ⟨p,0,none⟩))∧w'.cell? ⟨hb,1,none⟩=some (.int .i64 t)∧w'.cell? ⟨hb,2,none⟩=some (.int .i64 b)∧w'.cell? ⟨hb,3,none⟩=some (.int .i64 l))
       (first | (with_reducible exact ⟨c0,c1,c2,c3⟩) | (with_reducible exact ⟨e0,e1,e2,e3⟩) | (with_reducible exact ⟨g0,g1,g2,g3⟩) | (with_reducible exact ⟨i0,i1,i2,i3⟩) | go_keep)
       (first
         | (go_at_call 213;with_reducible refine (HCD.out _).mono ?_;rintro e w8 ⟨rfl,hbc⟩;have HP8:=Lib.hid (HP7.out.drew.below (w':=w8) ⟨hbc.os,hbc.tape,hbc.output,hbc.size,hbc.block⟩);have e0:=HP8.out.c0;have e1:=HP8.out.c1;have e2:=HP8.out.c2;have e3:=HP8.out.c3)
         | (go_at_call 218;with_reducible refine (HNT.out _ HP8.out).mono ?_;rintro e w9 ⟨x,S9,A9,R9,rfl,hg9,hp9,hs9,hk9⟩;have HK9:=Lib.hid hk9;have g0:=hp9.c0;have g1:=hp9.c1;have g2:=hp9.c2;have g3:=hp9.c3)
         | (go_at_call 217;with_reducible refine (lfail_any _ hb p R9 S9 A9 t b l 0 x hp9).mono ?_;rintro e w10 ⟨rfl,hp10,hs10,_⟩;rw [if_pos rfl] at hp10;have i0:=hp10.c0;have i1:=hp10.c1;have i2:=hp10.c2;have i3:=hp10.c3))
      all_goals (
       have HX:=Lib.hid (And.intro hp10 (((HS7.out.drew.trans (StepH.of_below (w':=w8) ⟨hbc.os,hbc.tape,hbc.output,hbc.size,hbc.block⟩)).trans hs9).trans hs10))
       have HY:=Lib.hid (HG7.out.trans (hg9.mono fun V hV=>Clo.note hV))
       have HZ:Hid (x=0→Has S9 A9 t r _):=fun _=>(by first | exact (HH7.out rfl).st H.out.ht hg9.st | exact (HH7.out trivial).st H.out.ht hg9.st)
       clear c0 c1 c2 c3 e0 e1 e2 e3 g0 g1 g2 g3 i0 i1 i2 i3 hp9 hs9 hg9 hp10 hs10 hk9
       go_wp2_with fail
       go_returns
       exact ⟨r,S9,A9,R9,x,rfl,HY.out,HZ.out,HX.out.1,HX.out.2,HK9.out⟩)
     ·have hb8:(bad7==0)=false:=beq_eq_false_iff_ne.2 hb7
      have HB7:=Lib.hid hb7
      clear hb7
      go_wp2_with fail
      go_returns
      exact ⟨r,S7,A7,R7,bad7,rfl,HG7.out,fun e=>absurd e HB7.out,HP7.out,HS7.out,fun e=>absurd e HB7.out⟩
   ·go_wp2_with fail
    go_returns
    exact ⟨v,S,A,R,0,rfl,Grew.refl H.out.rel t _ _,fun _=>(HV.out trivial).1,HP.out,HSS.out,fun _=>(HV.out trivial).2⟩
 ·have hb1:(bad==0)=false:=beq_eq_false_iff_ne.2 hb0
  have HB0:=Lib.hid hb0
  clear hb0 h0 h1 h hT hq hj0 hj
  go_enter Tryz.func193,Tryz.ntmps193
  go_wp2_with fail
  go_returns
  exact ⟨0,S,A,R,bad,rfl,Grew.none H.out.rel t _ _,fun e=>absurd e HB0.out,H.out,StepH.refl _ p R w,fun e=>absurd e HB0.out⟩
theorem result_any (b l:Int) (hg:goodR b l):∀n,n≤42→ResOk b l n
 | 0,hn=>result_walk b l hg 0 hn (fun _ T j hT=>inner_zero hg hT j) (fun m h=>absurd h (by omega))
 | n+1,hn=>result_walk b l hg (n+1) hn (fun h=>absurd h (by omega)) (fun m hm T j hT hj0 hj=>by
    obtain rfl:m=n:=by omega
    intro w hb p R S A t h G hG
    exact llarge_any b l m (by omega) (result_any b l hg m (by omega)) w hb p R S A t 0 h G T hT (fun _=>hG) j hj0 hj)
end Go.Proofs.YthohnjgnpapnoaaGreatDoor
namespace Go.Proofs.YthohnjgnpapnoaaGreatDoor
open Go.RowKit
def BuildOk (n:Nat):Prop:=∀(w:World) (hb:Nat) (ty:TypeId) (more:List Value) (p:Nat) (R:ArR) (S:ArS) (A:Nat→Abs) (t:Nat) (bad:Int),Hd w hb ty more p R S A t bad→
 ∀(v:Value) (m:Nat) (l:List (Int×Int)),Rd w w.heap.size 2 v m (flat l)→m≤100000→∀x y:Int,-35184372088832≤x→x+2^n≤35184372088832→-35184372088832≤y→y+2^n≤35184372088832→(∀c∈l,inB n x y c.1 c.2)→
 Calls Tryz.prog 107 #[.pointer (some ⟨hb,0,none⟩),v,.int .i64 x,.int .i64 y,.int .i64 n] w (HandPost w hb ty more p R S A t bad (treeOf (setOfL l) n x y))
set_option maxRecDepth 100000 in
set_option maxHeartbeats 3200000 in
theorem build_none (n:Nat) (hn:n≤44) (w:World) (hb:Nat) (ty:TypeId) (more:List Value) (p:Nat) (R:ArR) (S:ArS) (A:Nat→Abs) (t:Nat) (bad:Int) (h:Hd w hb ty more p R S A t bad) (q:Option Addr) (cap:Nat) (x y:Int):
 Calls Tryz.prog 107 #[.pointer (some ⟨hb,0,none⟩),.slice q 0 cap,.int .i64 x,.int .i64 y,.int .i64 n] w (HandPost w hb ty more p R S A t bad (emptyT n)):=by
 have HE:=Lib.hid (hempty_any w hb ty more p R S A t bad h n hn)
 clear h
 go_enter Tryz.func107,Tryz.ntmps107
 go_wp2_with fail
 (with_reducible refine HE.out.mono ?_)
 rintro e w3 ⟨r,S2,A2,R2,bad2,rfl,hm,hh,hd,hst⟩
 go_wp2_with fail
 go_returns
 exact ⟨r,S2,A2,R2,bad2,rfl,hm,hh,hd,hst⟩
set_option maxRecDepth 100000 in
set_option maxHeartbeats 3200000 in
theorem build_zero:BuildOk 0:=by
 intro w hb ty more p R S A t bad h v m l hR hm x y hx1 hx2 hy1 hy2 hin
 obtain ⟨hl,_⟩:=hR.pairs
 obtain ⟨q,cap,rfl,hc1,hc2⟩:=hR.form
 by_cases h0:m=0
 ·subst h0
  have:l= []:=List.eq_nil_of_length_eq_zero hl
  subst this
  rw [treeOf_none (P:=setOfL []) (n:=0) (fun a b _=>by simp [setOfL])]
  exact build_none 0 (by decide) w hb ty more p R S A t bad h q cap x y
 ·have hmem:setOfL l x y=true:=by
   obtain ⟨c,hc⟩:∃c,c∈l:=by
    cases l with
    | nil=>simp at hl;omega
    | cons c r=>exact ⟨c,List.mem_cons_self ..⟩
   have h1:=hin c hc
   unfold inB at h1
   have e1:c.1=x:=by simp at h1;omega
   have e2:c.2=y:=by simp at h1;omega
   unfold setOfL
   rw [decide_eq_true_eq,←e1,←e2];exact hc
  have hT:treeOf (setOfL l) 0 x y= .alive:=by simp only [treeOf,hmem,if_true]
  rw [hT]
  have h0':((m:Int)==0)=false:=by simp;omega
  have H:=Lib.hid h
  clear hR hin hl hmem hT h h0
  go_enter Tryz.func107,Tryz.ntmps107
  go_wp2_with fail
  go_returns
  exact ⟨1,S,A,R,bad,rfl,Made.refl H.out.rel t bad,fun _=>Has.alive,H.out,StepH.refl _ p R w⟩
set_option maxRecDepth 100000 in
set_option maxHeartbeats 3200000 in
theorem build_more (n:Nat) (hn:n+1≤44) (ih:BuildOk n):BuildOk (n+1):=by
 intro w hb ty more p R S A t bad h v m l hR hm x y hx1 hx2 hy1 hy2 hin
 obtain ⟨hl,hat⟩:=hR.pairs
 obtain ⟨q,cap,rfl,hc1,hc2⟩:=hR.form
 by_cases h0:m=0
 ·subst h0
  have:l= []:=List.eq_nil_of_length_eq_zero hl
  subst this
  rw [treeOf_none (P:=setOfL []) (n:=n+1) (fun a b _=>by simp [setOfL])]
  exact build_none (n+1) hn w hb ty more p R S A t bad h q cap x y
 ·obtain ⟨b,off,cap',he,_,_,hb1,hcs⟩:=hat (by omega)
  injection he with he1 _ he3
  subst he1
  have h0':((m:Int)==0)=false:=by simp;omega
  have hn0:((n:Int)+1==0)=false:=by simp;omega
  have hp1:=pow_i64 (n:=n) (by omega)
  have hp2:=pow_pos2 n
  have HX:Hid ((-35184372088832≤x∧x+2^(n+1)≤35184372088832)∧-35184372088832≤y∧y+2^(n+1)≤35184372088832):=⟨⟨hx1,hx2⟩,hy1,hy2⟩
  rw [Int.pow_succ] at hx2 hy2
  have hx3:x+2^n≤35184372088832:=by omega
  have hy3:y+2^n≤35184372088832:=by omega
  have H:=Lib.hid h
  have HCS:=Lib.hid hcs
  have HL:=Lib.hid hl
  have HIN:=Lib.hid hin
  have HM:=Lib.hid hm
  have HBL:=Lib.hid hb1
  unfold maxLen at hc2
  clear h hcs hl hin hR hat he3 hb1 hx2 hy2
  rw [show ((n+1:Nat):Int)=(n:Int)+1 by omega]
  go_enter Tryz.func107,Tryz.ntmps107
  go_wp2_with fail
  have HP:=Lib.hid (PartI.start w (2^n) x y l)
  unfold nilV at HP
  generalize World.alloc _ _=w2 at HP ⊢
  go_loopw [34] (fun iv wx=>∃(i:Nat) (V:Nat→Value),iv= .int .i64 i∧i≤m∧PartI w (2^n) x y l V i wx) (fun iv _=>m-(intOf iv).toNat)
  case atStart=>exact ⟨0,_,rfl,Nat.zero_le _,HP.out⟩
  case round=>
   obtain ⟨i,V,rfl,hi,hP⟩:=hrel
   have HP:=Lib.hid hP
   clear hP
   by_cases hin:i<m
   ·obtain ⟨c3,c4⟩:=HCS.out i hin
    rw [←HP.out.bl.cell (p:=⟨b,off+i*2,none⟩) HBL.out] at c3
    rw [←HP.out.bl.cell (p:=⟨b,off+i*2+1,none⟩) HBL.out] at c4
    have hci:l[i]? =some l[i]! :=by have:=HL.out;rw [List.getElem!_eq_getElem?_getD,List.getElem?_eq_getElem (by omega)];rfl
    generalize hck:l[i]! =c at c3 c4 hci
    obtain ⟨cx,cy⟩:=c
    have HCI:=Lib.hid hci
    have HIN:=Lib.hid hin
    have hlt:(i:Int)<m:=by omega
    have hwi:=wrap_nat' i (by unfold maxLen;omega)
    have hlen:Hid (∀k,(part (2^n) x y k (l.take i)).length≤100000):=fun k=>by
     have h1:=part_len (2^n) x y k (l.take i)
     have h2:=List.length_take_le i l
     have h3:=HM.out
     have h4:=HIN.out
     omega
    clear hck hci hin hi
    generalize hkk:qd (2^n) x y (cx,cy)=k
    have HK:=Lib.hid hkk
    have hk4:k<4:=by rw [←hkk];exact qd_lt _ _ _ _
    have HK4:=Lib.hid hk4
    obtain ⟨vA,vcap,hV,hv1,hv2⟩:=(HP.out.sl k hk4).form
    have HV:=Lib.hid hV
    have HSL:=Lib.hid (HP.out.sl k hk4)
    rw [hV] at HSL
    have d0:=(HP.out.below ((Below.refl _ _).alloc (Nat.le_refl _) (.cells #[.int .i64 cx,.int .i64 cy] 109))).blk.cellS (VC_get V hk4)
    rw [hV] at d0
    generalize hLN:(part (2^n) x y k (l.take i)).length=L at*
    have HLN:=Lib.hid hLN
    unfold qd at hkk
    clear hV hLN hk4
    by_cases hx4:x+2^n≤cx<;>by_cases hy4:y+2^n≤cy
    all_goals (first
     | (have e:k=3:=by rw [←hkk];simp [hx4,hy4]
        subst e)
     | (have e:k=1:=by rw [←hkk];simp [hx4,hy4]
        subst e)
     | (have e:k=2:=by rw [←hkk];simp [hx4,hy4]
        subst e)
     | (have e:k=0:=by rw [←hkk];simp [hx4,hy4]
        subst e))
    all_goals (clear hkk;go_wp2_with fail)
    all_goals (
     obtain ⟨w2,hw2⟩:∃w2,wr.alloc (.cells #[.int .i64 cx,.int .i64 cy] 109)=w2:=⟨_,rfl⟩
     rw [hw2] at d0 ⊢
     have HBW:Hid (Below wr.heap.size wr w2):=by subst hw2;exact (Below.refl _ _).alloc (Nat.le_refl _) _
     have e0:w2.cell? ⟨wr.heap.size,0,none⟩=some (.int .i64 cx):=by subst hw2;exact (Blk.new wr _ _).cellS rfl
     have e1:w2.cell? ⟨wr.heap.size,1,none⟩=some (.int .i64 cy):=by subst hw2;exact (Blk.new wr _ _).cellS rfl
     have HSL2:=Lib.hid (HSL.out.below HBW.out)
     clear hw2 c3 c4 hx4 hy4
     have d1:=(HP.out.below (HBW.out.alloc HBW.out.size (.cells #[.int .i64 cx,.int .i64 cy] 109))).blk.cellS (VC_get V HK4.out)
     rw [HV.out] at d1
     have HX:=Lib.hid (Rd.fresh w2 109 #[.int .i64 cx,.int .i64 cy] 2 1 rfl (by unfold maxLen;omega))
     have HLE:Hid (L≤100000):=Nat.le_trans (Nat.le_of_eq HLN.out.symm) (hlen.out _)
     go_region_law
      ((refine step_append_sl _ rfl (.tmp 57) (.tmp 59) 55 rfl 109 (.agg #[.int .i64 0,.int .i64 0]) 2 16 Tryz.underlying55 Tryz.info109 rfl (by decide) rfl (by exact HSL2.out.alloc _) rfl (by exact HX.out) (by intro u hu;simp at hu;rcases hu with rfl | rfl<;>rfl) (by have:=HLE.out;omega) (by have:=HLE.out;unfold maxLen;omega) ?_;intro v' w6 hs6 hm6 hd6;obtain ⟨g0,g1,g2⟩:=HP.out.app HCI.out HK.out HV.out HLN.out ((HBW.out.alloc HBW.out.size _).drew) hm6 hs6 hd6;obtain ⟨A',cap',rfl,q1,q2⟩:=hs6.form))
     all_goals (
      have HG:=Lib.hid g2
      clear g2 g0 g1 hm6 hd6 hs6 d0 d1 e0 e1
      go_wp2_with fail
      go_roundw
      case rel=>exact ⟨i+1,_,by go_num,HIN.out,HG.out⟩
      case measure=>simp [intOf];have:=HIN.out;omega))
   ·have hi5:i=m:=by omega
    subst hi5
    clear hin hi
    go_wp2_with fail
    obtain ⟨w0,rfl⟩:∃w0:World,w0=wr:=⟨_,rfl⟩
    have HQS:=Lib.hid (QuadI.start ((H.out.below HP.out.bl).alloc (.cells #[.int .i64 0,.int .i64 0,.int .i64 0,.int .i64 0] 22)) (Blk.new w0 22 #[.int .i64 0,.int .i64 0,.int .i64 0,.int .i64 0]) (partT l n x y))
    have HLT:Hid (w0.heap.size<(w0.alloc (.cells #[.int .i64 0,.int .i64 0,.int .i64 0,.int .i64 0] 22)).heap.size):=(Blk.new w0 22 #[.int .i64 0,.int .i64 0,.int .i64 0,.int .i64 0]).lt
    have HNO:Hid (¬Own p R w0.heap.size):=fun ho=>by have:=(H.out.below HP.out.bl).arm.own_lt ho;omega
    have HNE:Hid (w0.heap.size≠hb):=by have:=(H.out.below HP.out.bl).blk.lt;show w0.heap.size≠hb;omega
    go_loopw [63] (fun jv wx=>∃(j:Nat) (Q:Nat→Int) (S':ArS) (A':Nat→Abs) (R':ArR) (bad':Int),jv= .int .i64 j∧j≤4∧QuadI (w0.alloc (.cells #[.int .i64 0,.int .i64 0,.int .i64 0,.int .i64 0] 22)) hb w0.heap.size ty more p R S A t bad (partT l n x y) j Q S' A' R' bad' wx) (fun jv _=>4-(intOf jv).toNat)
    case atStart=>exact ⟨0,_,S,A,R,bad,rfl,Nat.zero_le _,HQS.out⟩
    case round=>
     obtain ⟨j,Q,S',A',R',bad',rfl,hj,hQ⟩:=hrel
     have HQ:=Lib.hid hQ
     clear hQ
     by_cases hj4:j<4
     ·have hpq:=QuadI.parts H.out HP.out HL.out _ HQ.out hj4
      obtain ⟨d0,hrd⟩:=hpq
      obtain ⟨vA,vcap,hV,hv1,hv2⟩:=hrd.form
      rw [hV] at d0 hrd
      have hb4:=ih wr hb ty more p R' S' A' t bad' HQ.out.hd _ _ _ hrd (by have h1:=part_len (2^n) x y j l;have h2:=HL.out;have h3:=HM.out;omega) (gx (2^n) x j) (gy (2^n) y j) (gx_bd j HX.out.1).1 (gx_bd j HX.out.1).2 (gy_bd j HX.out.2).1 (gy_bd j HX.out.2).2 (part_in HIN.out)
      rw [tree_part hj4] at hb4
      change Calls _ _ _ _ (HandPost wr hb ty more p R' S' A' t bad' (partT l n x y j)) at hb4
      have HB4:=Lib.hid hb4
      generalize (part (2^n) x y j l).length=L at*
      have HJ4:=Lib.hid hj4
      clear hb4 hrd hV hj
      rcases (by omega:j=0∨j=1∨j=2∨j=3) with rfl | rfl | rfl | rfl
      all_goals clear hj4
      ·have HB5:Hid (Calls Tryz.prog 107 #[.pointer (some ⟨hb,0,none⟩),.slice vA L vcap,.int .i64 x,.int .i64 y,.int .i64 n] wr (HandPost wr hb ty more p R' S' A' t bad' (partT l n x y 0))):=HB4
       clear HB4
       go_wp2_with fail
       (with_reducible refine HB5.out.mono ?_)
       rintro e w3 ⟨r,S2,A2,R2,bad2,rfl,hm,hh,hd,hst⟩
       obtain ⟨g0,g1,g2⟩:=HQ.out.step HLT.out HNO.out HNE.out HJ4.out hm hh hd hst
       have HG:=Lib.hid g2
       clear g2 hm hh hd hst HB5 d0
       go_wp2_with fail
       go_roundw
       case rel=>exact ⟨1,_,S2,A2,R2,bad2,by go_num,by decide,HG.out⟩
       case measure=>simp [intOf]
      ·have HB5:Hid (Calls Tryz.prog 107 #[.pointer (some ⟨hb,0,none⟩),.slice vA L vcap,.int .i64 (x+2^n),.int .i64 y,.int .i64 n] wr (HandPost wr hb ty more p R' S' A' t bad' (partT l n x y 1))):=HB4
       clear HB4
       go_wp2_with fail
       (with_reducible refine HB5.out.mono ?_)
       rintro e w3 ⟨r,S2,A2,R2,bad2,rfl,hm,hh,hd,hst⟩
       obtain ⟨g0,g1,g2⟩:=HQ.out.step HLT.out HNO.out HNE.out HJ4.out hm hh hd hst
       have HG:=Lib.hid g2
       clear g2 hm hh hd hst HB5 d0
       go_wp2_with fail
       go_roundw
       case rel=>exact ⟨2,_,S2,A2,R2,bad2,by go_num,by decide,HG.out⟩
       case measure=>simp [intOf]
      ·have HB5:Hid (Calls Tryz.prog 107 #[.pointer (some ⟨hb,0,none⟩),.slice vA L vcap,.int .i64 x,.int .i64 (y+2^n),.int .i64 n] wr (HandPost wr hb ty more p R' S' A' t bad' (partT l n x y 2))):=HB4
       clear HB4
       go_wp2_with fail
       (with_reducible refine HB5.out.mono ?_)
       rintro e w3 ⟨r,S2,A2,R2,bad2,rfl,hm,hh,hd,hst⟩
       obtain ⟨g0,g1,g2⟩:=HQ.out.step HLT.out HNO.out HNE.out HJ4.out hm hh hd hst
       have HG:=Lib.hid g2
       clear g2 hm hh hd hst HB5 d0
       go_wp2_with fail
       go_roundw
       case rel=>exact ⟨3,_,S2,A2,R2,bad2,by go_num,by decide,HG.out⟩
       case measure=>simp [intOf]
      ·have HB5:Hid (Calls Tryz.prog 107 #[.pointer (some ⟨hb,0,none⟩),.slice vA L vcap,.int .i64 (x+2^n),.int .i64 (y+2^n),.int .i64 n] wr (HandPost wr hb ty more p R' S' A' t bad' (partT l n x y 3))):=HB4
       clear HB4
       go_wp2_with fail
       (with_reducible refine HB5.out.mono ?_)
       rintro e w3 ⟨r,S2,A2,R2,bad2,rfl,hm,hh,hd,hst⟩
       obtain ⟨g0,g1,g2⟩:=HQ.out.step HLT.out HNO.out HNE.out HJ4.out hm hh hd hst
       have HG:=Lib.hid g2
       clear g2 hm hh hd hst HB5 d0
       go_wp2_with fail
       go_roundw
       case rel=>exact ⟨4,_,S2,A2,R2,bad2,by go_num,by decide,HG.out⟩
       case measure=>simp [intOf]
     ·have hj5:j=4:=by omega
      subst hj5
      have q0:=HQ.out.q.cellS (QC_get Q (k:=0) (by decide))
      have q1:=HQ.out.q.cellS (QC_get Q (k:=1) (by decide))
      have q2:=HQ.out.q.cellS (QC_get Q (k:=2) (by decide))
      have q3:=HQ.out.q.cellS (QC_get Q (k:=3) (by decide))
      have HJ:=Lib.hid (hjoin_any wr hb ty more p R' S' A' t bad' HQ.out.hd (Q 0) (Q 1) (Q 2) (Q 3) _ _ _ _ n (fun e=>⟨HQ.out.has e 0 (by decide),HQ.out.has e 1 (by decide),HQ.out.has e 2 (by decide),HQ.out.has e 3 (by decide)⟩) ⟨partT_lvl l n x y 0,partT_lvl l n x y 1,partT_lvl l n x y 2,partT_lvl l n x y 3⟩ (by omega))
      rw [←partT_all] at HJ
      clear hj hj4
      go_wp2_with fail
      (with_reducible refine HJ.out.mono ?_)
      rintro e w3 ⟨r,S2,A2,R2,bad2,rfl,hm,hh,hd,hst⟩
      have HM2:=Lib.hid (HQ.out.made.next hm (by rw [partT_all];exact upto_four _))
      have HH:=Lib.hid hh
      have HD:=Lib.hid hd
      have HS2:Hid (StepH (fun b=>b=hb) p R R2 w w3):=HQ.out.quad_end H.out HP.out hst
      clear hm hh hd hst q0 q1 q2 q3 HJ
      go_wp2_with fail
      go_returns
      exact ⟨r,S2,A2,R2,bad2,rfl,HM2.out,HH.out,HD.out,HS2.out⟩
theorem build_any (n:Nat) (hn:n≤44):BuildOk n:=by
 induction n with
 | zero=>exact build_zero
 | succ n ih=>exact build_more n hn (ih (by omega))
end Go.Proofs.YthohnjgnpapnoaaGreatDoor
namespace Go.Proofs.YthohnjgnpapnoaaGreatDoor
open Go.RowKit
def cmpZ (x y:Int):Int:=if x<y then-1 else if y<x then 1 else 0
def ordZ (a b:Int×Int):Int:=if cmpZ a.2 b.2=0 then cmpZ a.1 b.1 else cmpZ a.2 b.2
def ltC (a b:Int×Int):Prop:=a.2<b.2∨a.2=b.2∧a.1<b.1
theorem cmpZ_zero (x y:Int):cmpZ x y=0↔x=y:=by unfold cmpZ;split<;>(try split)<;>omega
theorem cmpZ_neg (x y:Int):cmpZ x y<0↔x<y:=by unfold cmpZ;split<;>(try split)<;>omega
theorem ordZ_neg (a b:Int×Int):ordZ a b<0↔ltC a b:=by
 unfold ordZ ltC
 have h1:=cmpZ_zero a.2 b.2
 have h2:=cmpZ_neg a.2 b.2
 have h3:=cmpZ_neg a.1 b.1
 split<;>omega
theorem isNaN_any (x:Int) (w:World):Calls Tryz.prog 128 #[.int .i64 x] w fun e w'=>e= .returned (.bool false)∧w=w':=by
 go_enter Tryz.func128,Tryz.ntmps128
 go_wp2
 go_ret
 exact ⟨by simp,rfl⟩
theorem compare_any (x y:Int) (w:World):Calls Tryz.prog 84 #[.int .i64 x,.int .i64 y] w fun e w'=>e= .returned (.int .i64 (cmpZ x y))∧w=w':=by
 by_cases h1:x<y
 ·have e:cmpZ x y= -1:=by unfold cmpZ;rw [if_pos h1]
  rw [e]
  go_enter Tryz.func84,Tryz.ntmps84
  go_wp2_with (go_at_call 128;refine (isNaN_any _ _).mono ?_;rintro e w' ⟨rfl,rfl⟩)
  go_ret
  exact ⟨rfl,rfl⟩
 ·by_cases h2:y<x
  ·have e:cmpZ x y=1:=by unfold cmpZ;rw [if_neg h1,if_pos h2]
   rw [e]
   go_enter Tryz.func84,Tryz.ntmps84
   go_wp2_with (go_at_call 128;refine (isNaN_any _ _).mono ?_;rintro e w' ⟨rfl,rfl⟩)
   go_ret
   exact ⟨rfl,rfl⟩
  ·have e:cmpZ x y=0:=by unfold cmpZ;rw [if_neg h1,if_neg h2]
   rw [e]
   go_enter Tryz.func84,Tryz.ntmps84
   go_wp2_with (go_at_call 128;refine (isNaN_any _ _).mono ?_;rintro e w' ⟨rfl,rfl⟩)
   go_ret
   exact ⟨rfl,rfl⟩
def orZ (x y:Int):Int:=if x=0 then y else x
theorem or_two (b:Nat) (x y:Int) (w:World) (h0:w.cell? ⟨b,0,none⟩=some (.int .i64 x)) (h1:w.cell? ⟨b,1,none⟩=some (.int .i64 y)):
 Calls Tryz.prog 83 #[.slice (some ⟨b,0,none⟩) 2 2] w fun e w'=>e= .returned (.int .i64 (orZ x y))∧w=w':=by
 by_cases hx:x=0
 ·subst hx
  rw [show orZ 0 y=y from rfl]
  by_cases hy:y=0
  ·subst hy
   go_enter Tryz.func83,Tryz.ntmps83
   go_wp2
   refine wp_loop_rounds 3 ?_;rw [rounds_succ]
   go_wp2
   rw [rounds_succ]
   go_wp2
   rw [rounds_succ]
   go_wp2
   go_ret
   exact ⟨rfl,rfl⟩
  ·have hy':(y !=0)=true:=by simp;omega
   clear hy
   go_enter Tryz.func83,Tryz.ntmps83
   go_wp2
   refine wp_loop_rounds 2 ?_;rw [rounds_succ]
   go_wp2
   rw [rounds_succ]
   go_wp2
   go_ret
   exact ⟨rfl,rfl⟩
 ·have hx':(x !=0)=true:=by simp;omega
  rw [show orZ x y=x by unfold orZ;rw [if_neg hx]]
  clear hx
  go_enter Tryz.func83,Tryz.ntmps83
  go_wp2
  refine wp_loop_rounds 1 ?_;rw [rounds_succ]
  go_wp2
  go_ret
  exact ⟨rfl,rfl⟩
theorem within_any (x:Int) (w:World):Calls Tryz.prog 49 #[.int .i64 x] w fun e w'=>e= .returned (.bool (decide (-1099511627776<x∧x<1099511627776)))∧w=w':=by
 by_cases h1: -1099511627776<x
 ·by_cases h2:x<1099511627776
  ·have e:decide (-1099511627776<x∧x<1099511627776)=true:=by simp [h1,h2]
   rw [e]
   go_enter Tryz.func49,Tryz.ntmps49
   go_wp2
   go_ret
   exact ⟨by simp,rfl⟩
  ·have e:decide (-1099511627776<x∧x<1099511627776)=false:=by simp [h2]
   rw [e]
   go_enter Tryz.func49,Tryz.ntmps49
   go_wp2
   go_ret
   exact ⟨by simp,rfl⟩
 ·have e:decide (-1099511627776<x∧x<1099511627776)=false:=by simp [h1]
  rw [e]
  go_enter Tryz.func49,Tryz.ntmps49
  go_wp2
  go_ret
  exact ⟨by simp,rfl⟩
open Go.Shelf Go.Sort Go.Lib in
set_option maxHeartbeats 1600000 in
theorem order_any (a b:Int×Int) (W:World):Calls Tryz.prog 52 #[.agg #[.int .i64 a.1,.int .i64 a.2],.agg #[.int .i64 b.1,.int .i64 b.2]] W fun e w'=>
 e= .returned (.int .i64 (ordZ a b))∧∃q os',w'=grow (W.drewN q) os':=by
 obtain ⟨ax,ay⟩:=a
 obtain ⟨bx,bY⟩:=b
 have e:ordZ (ax,ay) (bx,bY)=orZ (cmpZ ay bY) (cmpZ ax bx):=rfl
 rw [e]
 clear e
 generalize hz1:cmpZ ay bY=z1
 generalize hz2:cmpZ ax bx=z2
 have c1:∀w,Calls Tryz.prog 84 #[.int .i64 ay,.int .i64 bY] w fun e w'=>e= .returned (.int .i64 z1)∧w=w':=fun w=>hz1▸compare_any ay bY w
 have c2:∀w,Calls Tryz.prog 84 #[.int .i64 ax,.int .i64 bx] w fun e w'=>e= .returned (.int .i64 z2)∧w=w':=fun w=>hz2▸compare_any ax bx w
 clear hz1 hz2
 have H1:=Lib.hid c1
 have H2:=Lib.hid c2
 clear c1 c2
 go_enter Tryz.func52,Tryz.ntmps52
 go_wp2_with fail
 go_region_held3 (fun w'=>w'.cell? ⟨W.heap.size,0,none⟩=some (.int .i64 ax)∧w'.cell? ⟨W.heap.size,1,none⟩=some (.int .i64 ay)∧w'.cell? ⟨W.heap.size+1,0,none⟩=some (.int .i64 bx)∧w'.cell? ⟨W.heap.size+1,1,none⟩=some (.int .i64 bY)) (simp [go_sem,World.cell?_alloc_past])
  (first
    | (go_at_call_of 84 (Value.int .i64 ay);refine (H1.out _).mono ?_;rintro e w' ⟨rfl,rfl⟩)
    | (go_at_call_of 84 (Value.int .i64 ax);refine (H2.out _).mono ?_;rintro e w' ⟨rfl,rfl⟩)
    | (go_at_call 83;refine (or_two _ z1 z2 _ (by simp [go_sem]) (by simp [go_sem])).mono ?_;rintro e w' ⟨rfl,rfl⟩))
 go_wp2
 go_ret
 exact ⟨rfl,1,_,by rw [alloc_eq_grow,alloc_eq_grow,alloc_eq_grow,grow_grow,grow_grow];rfl⟩
end Go.Proofs.YthohnjgnpapnoaaGreatDoor
namespace Go.Proofs
open Go.Shelf
def Tryz.sortCell_ren:Go.Shelf.Ren:=⟨fun | 6=>51 | 15=>82 | 14=>81 | 28=>126 | 29=>127 | 20=>118 | 21=>119 | 22=>120 | 23=>121 | 24=>122 | 25=>123 | 26=>124 | 27=>125 | 46=>167 | 47=>168 | 48=>169 | 49=>170 | 50=>171 | 57=>195 | n=>n,fun | 22=>55 | 24=>109 | 25=>111 | 3=>3 | 39=>148 | 0=>0 | 53=>208 | 55=>171 | 4=>4 | 46=>201 | 45=>200 | 50=>205 | 5=>5 | 9=>9 | 66=>246 | 70=>250 | 76=>282 | 77=>283 | n=>n,fun | n=>n⟩
theorem Tryz.sortCell:Go.Proofs.SlLaysF0.n6 Tryz.prog Tryz.sortCell_ren:={
 mixed:=by kernel_rfl
 f6:=⟨Tryz.f51.name,by decide,Tryz.func51.trans (congrArg some (by kernel_rfl))⟩
 f14:=⟨Tryz.f81.name,by decide,Tryz.func81.trans (congrArg some (by kernel_rfl))⟩
 f15:=Tryz.func82.trans (congrArg some (by kernel_rfl))
 f20:=⟨Tryz.f118.name,by decide,Tryz.func118.trans (congrArg some (by kernel_rfl))⟩
 f21:=⟨Tryz.f119.name,by decide,Tryz.func119.trans (congrArg some (by kernel_rfl))⟩
 f22:=⟨Tryz.f120.name,by decide,Tryz.func120.trans (congrArg some (by kernel_rfl))⟩
 f23:=⟨Tryz.f121.name,by decide,Tryz.func121.trans (congrArg some (by kernel_rfl))⟩
 f24:=⟨Tryz.f122.name,by decide,Tryz.func122.trans (congrArg some (by kernel_rfl))⟩
 f25:=⟨Tryz.f123.name,by decide,Tryz.func123.trans (congrArg some (by kernel_rfl))⟩
 f26:=⟨Tryz.f124.name,by decide,Tryz.func124.trans (congrArg some (by kernel_rfl))⟩
 f27:=⟨Tryz.f125.name,by decide,Tryz.func125.trans (congrArg some (by kernel_rfl))⟩
 f28:=Tryz.func126.trans (congrArg some (by kernel_rfl))
 f29:=Tryz.func127.trans (congrArg some (by kernel_rfl))
 f46:=⟨Tryz.f167.name,by decide,Tryz.func167.trans (congrArg some (by kernel_rfl))⟩
 f47:=Tryz.func168.trans (congrArg some (by kernel_rfl))
 f48:=Tryz.func169.trans (congrArg some (by kernel_rfl))
 f49:=⟨Tryz.f170.name,by decide,Tryz.func170.trans (congrArg some (by kernel_rfl))⟩
 f50:=⟨Tryz.f171.name,by decide,Tryz.func171.trans (congrArg some (by kernel_rfl))⟩
 f57:=⟨Tryz.f195.name,by decide,Tryz.func195.trans (congrArg some (by kernel_rfl))⟩
 t0:=Tryz.underlying0
 a0:=Tryz.isAgg0
 z0:=Tryz.sizeOf0
 v0:=Tryz.zeroValue0
 t3:=Tryz.underlying3
 a3:=Tryz.isAgg3
 z3:=Tryz.sizeOf3
 v3:=Tryz.zeroValue3
 t4:=Tryz.underlying4
 a4:=Tryz.isAgg4
 z4:=Tryz.sizeOf4
 v4:=Tryz.zeroValue4
 t5:=Tryz.underlying5
 a5:=Tryz.isAgg5
 z5:=Tryz.sizeOf5
 v5:=Tryz.zeroValue5
 t9:=Tryz.underlying9
 a9:=Tryz.isAgg9
 z9:=Tryz.sizeOf9
 v9:=Tryz.zeroValue9
 t22:=Tryz.underlying55
 a22:=Tryz.isAgg55
 z22:=Tryz.sizeOf55
 v22:=Tryz.zeroValue55
 t25:=Tryz.underlying111
 a25:=Tryz.isAgg111
 z25:=Tryz.sizeOf111
 v25:=Tryz.zeroValue111
 t39:=Tryz.underlying148
 a39:=Tryz.isAgg148
 z39:=Tryz.sizeOf148
 v39:=Tryz.zeroValue148
 t45:=Tryz.underlying200
 a45:=Tryz.isAgg200
 z45:=Tryz.sizeOf200
 v45:=Tryz.zeroValue200
 t46:=Tryz.underlying201
 a46:=Tryz.isAgg201
 z46:=Tryz.sizeOf201
 v46:=Tryz.zeroValue201
 t50:=Tryz.underlying205
 a50:=Tryz.isAgg205
 z50:=Tryz.sizeOf205
 v50:=Tryz.zeroValue205
 t53:=Tryz.underlying208
 a53:=Tryz.isAgg208
 z53:=Tryz.sizeOf208
 v53:=Tryz.zeroValue208
 t55:=Tryz.underlying171
 a55:=Tryz.isAgg171
 z55:=Tryz.sizeOf171
 v55:=Tryz.zeroValue171
 t66:=Tryz.underlying246
 a66:=Tryz.isAgg246
 z66:=Tryz.sizeOf246
 v66:=Tryz.zeroValue246
 t70:=Tryz.underlying250
 a70:=Tryz.isAgg250
 z70:=Tryz.sizeOf250
 v70:=Tryz.zeroValue250
 t76:=Tryz.underlying282
 a76:=Tryz.isAgg282
 z76:=Tryz.sizeOf282
 v76:=Tryz.zeroValue282
 t77:=Tryz.underlying283
 a77:=Tryz.isAgg283
 z77:=Tryz.sizeOf283
 v77:=Tryz.zeroValue283}
end Go.Proofs
