/- leap: grid. · quad: four squares made one behind the other. · leap: small. · arena: Note, Recall. · arena: Recall. -/
import Derived.Test.YthohnjgnpapnoaaGreatDoorR11
import Derived.Test.YthohnjgnpapnoaaGreatDoorR7
set_option linter.unusedVariables false
set_option linter.unusedSimpArgs false
namespace Go.Proofs.YthohnjgnpapnoaaGreatDoor
open Go.RowKit
def gC (G:Nat→Int):Array Value:=#[.int .i64 (G 0),.int .i64 (G 1),.int .i64 (G 2),.int .i64 (G 3),.int .i64 (G 4),.int .i64 (G 5),.int .i64 (G 6),.int .i64 (G 7),.int .i64 (G 8),.int .i64 (G 9),.int .i64 (G 10),.int .i64 (G 11),.int .i64 (G 12),.int .i64 (G 13),.int .i64 (G 14),.int .i64 (G 15)]
def GridPost (w:World) (hb p:Nat) (R:ArR) (S:ArS) (A:Nat→Abs) (t:Nat) (b l bad:Int) (T:Tree) (e:Ending) (w':World):Prop:=
 ∃G:Nat→Int,e= .returned (.agg (gC G))∧(bad=0→∀y x,y<4→x<4→Has S A t (G (y*4+x)) (gT T y x))∧Lp w' hb p R S A t b l bad∧StepH (fun b=>b=hb) p R R w w'
def cellIx (k j:Nat):Nat:=(k/2*2+j/2)*4+(k%2*2+j%2)
theorem cellIx_lt {k j:Nat} (hk:k<4) (hj:j<4):cellIx k j<16:=by unfold cellIx;omega
theorem cellIx_inj {k j k' j':Nat} (hk:k<4) (hj:j<4) (hk':k'<4) (hj':j'<4) (h:cellIx k j=cellIx k' j'):k=k'∧j=j':=by unfold cellIx at h;omega
theorem gC_get (G:Nat→Int) {i:Nat} (h:i<16):(gC G)[i]? =some (.int .i64 (G i)):=by
 have:i=0∨i=1∨i=2∨i=3∨i=4∨i=5∨i=6∨i=7∨i=8∨i=9∨i=10∨i=11∨i=12∨i=13∨i=14∨i=15:=by omega
 rcases this with rfl | rfl | rfl | rfl | rfl | rfl | rfl | rfl | rfl | rfl | rfl | rfl | rfl | rfl | rfl | rfl<;>rfl
theorem gC_set (G:Nat→Int) {i:Nat} (h:i<16) (x:Int):(gC G).setIfInBounds i (.int .i64 x)=gC (upd G i x):=by
 have:i=0∨i=1∨i=2∨i=3∨i=4∨i=5∨i=6∨i=7∨i=8∨i=9∨i=10∨i=11∨i=12∨i=13∨i=14∨i=15:=by omega
 rcases this with rfl | rfl | rfl | rfl | rfl | rfl | rfl | rfl | rfl | rfl | rfl | rfl | rfl | rfl | rfl | rfl<;>rfl
structure GridI (w:World) (hb p:Nat) (R:ArR) (S:ArS) (A:Nat→Abs) (t:Nat) (b l bad:Int) (T:Tree) (gb k j:Nat) (G:Nat→Int) (wx:World):Prop where
 lp:Lp wx hb p R S A t b l bad
 g:Lc wx p R hb gb 302 (gC G)
 r:Lc wx p R hb w.heap.size 302 (gC fun _=>0)
 st:StepN hb p R R w wx
 lo:w.heap.size<gb
 told:bad=0→∀k' j',k'<4→j'<4→k'<k∨k'=k∧j'<j→Has S A t (G (cellIx k' j')) ((T.kid k').kid j')
section
variable {w wx w1 : World} {hb p : Nat} {R : ArR} {S : ArS} {A : Nat → Abs} {t : Nat} {b l bad : Int} {T : Tree} {gb k j : Nat} {G : Nat → Int}
theorem GridI.step (h:GridI w hb p R S A t b l bad T gb k j G wx) (hp:Lp w1 hb p R S A t b l bad) (hs:StepH (fun b=>b=hb) p R R wx w1):GridI w hb p R S A t b l bad T gb k j G w1:=
 ⟨hp,h.g.step hs,h.r.step hs,h.st.step hs,h.lo,h.told⟩
theorem GridI.put (h:GridI w hb p R S A t b l bad T gb k j G wx) (hk:k<4) (hj:j<4) {x:Int} (hx:bad=0→Has S A t x ((T.kid k).kid j)):GridI w hb p R S A t b l bad T gb k (j+1) (upd G (cellIx k j) x) (wx.setCell ⟨gb,cellIx k j,none⟩ (.int .i64 x)):=by
 have hlo:=h.lo
 refine ⟨h.lp.lset h.g _ _,?_,h.r.far (by omega) _ _,h.st.lset (by omega) _ _,h.lo,fun e k' j' hk' hj' hc=>?_⟩
 ·rw [←gC_set G (cellIx_lt hk hj)];exact h.g.set _ _
 ·by_cases q:cellIx k' j'=cellIx k j
  ·obtain ⟨rfl,rfl⟩:=cellIx_inj hk' hj' hk hj q
   rw [upd_same];exact hx e
  ·rw [upd_ne _ _ q]
   refine h.told e k' j' hk' hj' ?_
   rcases hc with hc | ⟨rfl,hc⟩
   ·exact .inl hc
   ·refine .inr ⟨rfl,?_⟩
    rcases Nat.lt_or_ge j' j with q2 | q2
    ·exact q2
    ·exact absurd (by rw [show j'=j by omega]) q
theorem GridI.next (h:GridI w hb p R S A t b l bad T gb k 4 G wx):GridI w hb p R S A t b l bad T gb (k+1) 0 G wx:=
 ⟨h.lp,h.g,h.r,h.st,h.lo,fun e k' j' hk' hj' hc=>h.told e k' j' hk' hj' (by omega)⟩
theorem GridI.all (h:GridI w hb p R S A t b l bad T gb 4 0 G wx) (e:bad=0) (y x:Nat) (hy:y<4) (hx:x<4):Has S A t (G (y*4+x)) (gT T y x):=by
 have:=h.told e (y/2*2+x/2) (y%2*2+x%2) (by omega) (by omega) (by omega)
 rw [show cellIx (y/2*2+x/2) (y%2*2+x%2)=y*4+x by unfold cellIx;omega] at this
 exact this
end
theorem lc_fill {w:World} {p:Nat} {R:ArR} {hb z:Nat} {S:ArS} {A:Nat→Abs} {t:Nat} {b l bad:Int} {w0:World} (G:Nat→Int):∀(n:Nat),n≤16→∀{G0:Nat→Int},Lc w p R hb z 302 (gC G0)→Lp w hb p R S A t b l bad→StepN hb p R R w0 w→w0.heap.size≤z→
 ∃w',w'=(List.range n).foldl (fun w i=>w.setCell ⟨z,i,none⟩ (.int .i64 (G i))) w∧Lc w' p R hb z 302 (gC fun i=>if i<n then G i else G0 i)∧Lp w' hb p R S A t b l bad∧StepN hb p R R w0 w'
 | 0,_,G0,h,hp,hs,_=>⟨w,rfl,by simpa using h,hp,hs⟩
 | n+1,hn,G0,h,hp,hs,hz=>by
   obtain ⟨w',e,h1,h2,h3⟩:=lc_fill G n (by omega) h hp hs hz
   refine ⟨w'.setCell ⟨z,n,none⟩ (.int .i64 (G n)),by rw [List.range_succ,List.foldl_append,←e];rfl,?_,h2.lset h1 _ _,h3.lset hz _ _⟩
   have:=h1.set n (.int .i64 (G n))
   rw [gC_set _ (by omega)] at this
   have e2:(upd (fun i=>if i<n then G i else G0 i) n (G n))=fun i=>if i<n+1 then G i else G0 i:=by
    funext i
    unfold upd
    by_cases q:i=n
    ·subst q;simp
    ·simp [q,show i<n+1↔i<n by omega]
   rw [e2] at this
   exact this
theorem idxK (K:Nat→Int) {k:Nat} (hk:k<4) (w:World):(Instr.index 22 (.agg #[.int .i64 (K 0),.int .i64 (K 1),.int .i64 (K 2),.int .i64 (K 3)]) (.int .i64 (k:Int))).run Tryz.prog w= .ok (.int .i64 (K k)) w:=by
 rw [idx4 _ _ _ _ k hk w]
 rcases (by omega:k=0∨k=1∨k=2∨k=3) with rfl | rfl | rfl | rfl<;>rfl
set_option maxRecDepth 100000 in
set_option maxHeartbeats 6400000 in
theorem lgrid_any (w:World) (hb p:Nat) (R:ArR) (S:ArS) (A:Nat→Abs) (t:Nat) (b l bad:Int) (h:Lp w hb p R S A t b l bad)
 (id:Int) (T:Tree) (n:Nat) (hT:Pf (n+2) T) (hq:bad=0→Has S A t id T):
 Calls Tryz.prog 214 #[.pointer (some ⟨hb,0,none⟩),.int .i64 id] w (GridPost w hb p R S A t b l bad T):=by
 have HT:=Lib.hid hT
 have H0:Hid (GridI w hb p R S A t b l bad T (w.heap.size+1) 0 0 (fun _=>0) ((w.alloc (.cells #[.int .i64 0,.int .i64 0,.int .i64 0,.int .i64 0,.int .i64 0,.int .i64 0,.int .i64 0,.int .i64 0,.int .i64 0,.int .i64 0,.int .i64 0,.int .i64 0,.int .i64 0,.int .i64 0,.int .i64 0,.int .i64 0] 302)).alloc (.cells #[.int .i64 0,.int .i64 0,.int .i64 0,.int .i64 0,.int .i64 0,.int .i64 0,.int .i64 0,.int .i64 0,.int .i64 0,.int .i64 0,.int .i64 0,.int .i64 0,.int .i64 0,.int .i64 0,.int .i64 0,.int .i64 0] 302))):=by
  have hr:=Lc.new h 302 (gC fun _=>0)
  have h1:=h.alloc (.cells (gC fun _=>0) 302)
  have hg:=Lc.new h1 302 (gC fun _=>0)
  rw [World.size_alloc] at hg
  exact ⟨h1.alloc _,hg,hr.alloc _,((StepN.refl hb p R w).alloc _).alloc _,Nat.lt_succ_self _,fun _ k' j' _ _ hc=>by omega⟩
 have HK:=Lib.hid (fun W (hW:Lp W hb p R S A t b l bad)=>lkids_any W hb p R S A t b l bad hW id T (n+1) hT hq)
 clear h hq hT
 go_enter Tryz.func214,Tryz.ntmps214
 go_wp2_with fail
 generalize World.alloc (World.alloc w _) _=w2 at H0 ⊢
 generalize w.heap.size+1=gb at H0 ⊢
 (with_reducible refine (HK.out _ H0.out.lp).mono ?_)
 rintro e w3 ⟨k0,k1,k2,k3,rfl,hkh,hkz,hd3,hs3⟩
 obtain ⟨K,rfl,rfl,rfl,rfl⟩:=fn4 k0 k1 k2 k3
 have H3:=Lib.hid (H0.out.step hd3 hs3)
 have HKK:Hid (bad=0→∀k,k<4→Has S A t (K k) (T.kid k)):=fun e k hk=>by
  obtain ⟨g0,g1,g2,g3⟩:=hkh e
  have:k=0∨k=1∨k=2∨k=3:=by omega
  rcases this with rfl | rfl | rfl | rfl<;>assumption
 clear hkh hkz hd3 hs3 HK H0
 go_wp2_with fail
 go_loopw [13] (fun iv wx=>∃(k:Nat) (G:Nat→Int),iv= .int .i64 k∧k≤4∧GridI w hb p R S A t b l bad T gb k 0 G wx) (fun iv _=>4-(intOf iv).toNat)
 case atStart=>exact ⟨0,_,rfl,Nat.zero_le _,H3.out⟩
 case round=>
  obtain ⟨k,G,rfl,hk,hI⟩:=hrel
  have HI:=Lib.hid hI
  clear hI
  by_cases hk4:k<4
  ·have HKC:=Lib.hid (lkids_any wr hb p R S A t b l bad HI.out.lp (K k) (T.kid k) n (HT.out.kid k) (fun e=>HKK.out e k hk4))
   have hq:=fun w=>idxK K hk4 w
   have k4:k=0∨k=1∨k=2∨k=3:=by omega
   have HK4:=Lib.hid hk4
   obtain ⟨κ,hκ⟩:∃κ,κ=k:=⟨_,rfl⟩
   have HKE:=Lib.hid hκ
   rw [←hκ] at HI HK4
   have HKC:Hid (Calls Tryz.prog 224 #[.pointer (some ⟨hb,0,none⟩),.int .i64 (K k)] wr (LKidsPost wr hb p R S A t b l bad (T.kid κ))):=by rw [hκ];exact HKC.out
   clear hk hk4 hκ
   rcases k4 with rfl | rfl | rfl | rfl
   all_goals (
    (first | rw [show ((0:Nat):Int)=0 from rfl] at hq ⊢ | rw [show ((1:Nat):Int)=1 from rfl] at hq ⊢ | rw [show ((2:Nat):Int)=2 from rfl] at hq ⊢ | rw [show ((3:Nat):Int)=3 from rfl] at hq ⊢)
    go_wp2_with fail
    (with_reducible refine HKC.out.mono ?_)
    rintro e w4 ⟨j0,j1,j2,j3,rfl,hkh,hkz,hd4,hs4⟩
    obtain ⟨J,rfl,rfl,rfl,rfl⟩:=fn4 j0 j1 j2 j3
    have H4:=Lib.hid (HI.out.step hd4 hs4)
    have HJJ:Hid (bad=0→∀j,j<4→Has S A t (J j) ((T.kid κ).kid j)):=fun e j hj=>by
     obtain ⟨g0,g1,g2,g3⟩:=hkh e
     have:j=0∨j=1∨j=2∨j=3:=by omega
     rcases this with rfl | rfl | rfl | rfl<;>assumption
    clear hq hkh hkz hd4 hs4 HKC
    obtain ⟨wo,hwo⟩:∃wo:World,wo=wr:=⟨_,rfl⟩
    generalize wr=wo at*
    go_wp2_with fail
    go_loopw [20] (fun jv wx=>∃(j:Nat) (G:Nat→Int),jv= .int .i64 j∧j≤4∧GridI w hb p R S A t b l bad T gb κ j G wx) (fun jv _=>4-(intOf jv).toNat)
    case atStart=>exact ⟨0,G,rfl,Nat.zero_le _,H4.out⟩
    case round=>
     obtain ⟨j,G2,rfl,hj,hI2⟩:=hrel
     have HI2:=Lib.hid hI2
     clear hI2
     by_cases hj4:j<4
     ·have hq:=fun w=>idxK J hj4 w
      have HP:=Lib.hid (HI2.out.put HK4.out hj4 (fun e=>HJJ.out e j hj4))
      have hc:=HI2.out.g.cell (gC_get G2 (cellIx_lt HK4.out hj4))
      have hf:=HI2.out.g.frozen (cellIx κ j)
      have j4:j=0∨j=1∨j=2∨j=3:=by omega
      obtain ⟨ι,hι⟩:∃ι,ι=j:=⟨_,rfl⟩
      rw [HKE.out] at hc hf
      rw [←hι] at HP
      have HJE:=Lib.hid hι
      clear hj hj4 hι
      rcases j4 with rfl | rfl | rfl | rfl
      all_goals (
       (first | rw [show ((0:Nat):Int)=0 from rfl] at hq ⊢ | rw [show ((1:Nat):Int)=1 from rfl] at hq ⊢ | rw [show ((2:Nat):Int)=2 from rfl] at hq ⊢ | rw [show ((3:Nat):Int)=3 from rfl] at hq ⊢)
       simp only [cellIx,Nat.reduceDiv,Nat.reduceMod,Nat.reduceMul,Nat.reduceAdd] at hc hf
       go_wp2_with fail
       refine ⟨⟨ι+1,upd G2 (cellIx κ ι) (J ι),?_,?_,?_⟩,?_⟩
       ·rw [HJE.out];rfl
       ·rw [HJE.out];decide
       ·have h:=HP.out
        rw [HJE.out,HKE.out] at h ⊢
        exact h
       ·simp [intOf])
     ·obtain rfl:j=4:=by omega
      have HN:=Lib.hid HI2.out.next
      go_wp2_with fail
      refine ⟨⟨κ+1,G2,?_,?_,HN.out⟩,?_⟩
      ·rw [HKE.out];rfl
      ·rw [HKE.out];decide
      ·simp [intOf])
  ·obtain rfl:k=4:=by omega
   have g0:wr.cell? ⟨gb,0,none⟩=some (.int .i64 (G 0)):=HI.out.g.cell (gC_get G (by decide))
   have r0:wr.cell? ⟨w.heap.size,0,none⟩=some (.int .i64 0):=HI.out.r.cell (gC_get _ (by decide))
   have f0:=HI.out.r.frozen 0
   have g1:wr.cell? ⟨gb,1,none⟩=some (.int .i64 (G 1)):=HI.out.g.cell (gC_get G (by decide))
   have r1:wr.cell? ⟨w.heap.size,1,none⟩=some (.int .i64 0):=HI.out.r.cell (gC_get _ (by decide))
   have f1:=HI.out.r.frozen 1
   have g2:wr.cell? ⟨gb,2,none⟩=some (.int .i64 (G 2)):=HI.out.g.cell (gC_get G (by decide))
   have r2:wr.cell? ⟨w.heap.size,2,none⟩=some (.int .i64 0):=HI.out.r.cell (gC_get _ (by decide))
   have f2:=HI.out.r.frozen 2
   have g3:wr.cell? ⟨gb,3,none⟩=some (.int .i64 (G 3)):=HI.out.g.cell (gC_get G (by decide))
   have r3:wr.cell? ⟨w.heap.size,3,none⟩=some (.int .i64 0):=HI.out.r.cell (gC_get _ (by decide))
   have f3:=HI.out.r.frozen 3
   have g4:wr.cell? ⟨gb,4,none⟩=some (.int .i64 (G 4)):=HI.out.g.cell (gC_get G (by decide))
   have r4:wr.cell? ⟨w.heap.size,4,none⟩=some (.int .i64 0):=HI.out.r.cell (gC_get _ (by decide))
   have f4:=HI.out.r.frozen 4
   have g5:wr.cell? ⟨gb,5,none⟩=some (.int .i64 (G 5)):=HI.out.g.cell (gC_get G (by decide))
   have r5:wr.cell? ⟨w.heap.size,5,none⟩=some (.int .i64 0):=HI.out.r.cell (gC_get _ (by decide))
   have f5:=HI.out.r.frozen 5
   have g6:wr.cell? ⟨gb,6,none⟩=some (.int .i64 (G 6)):=HI.out.g.cell (gC_get G (by decide))
   have r6:wr.cell? ⟨w.heap.size,6,none⟩=some (.int .i64 0):=HI.out.r.cell (gC_get _ (by decide))
   have f6:=HI.out.r.frozen 6
   have g7:wr.cell? ⟨gb,7,none⟩=some (.int .i64 (G 7)):=HI.out.g.cell (gC_get G (by decide))
   have r7:wr.cell? ⟨w.heap.size,7,none⟩=some (.int .i64 0):=HI.out.r.cell (gC_get _ (by decide))
   have f7:=HI.out.r.frozen 7
   have g8:wr.cell? ⟨gb,8,none⟩=some (.int .i64 (G 8)):=HI.out.g.cell (gC_get G (by decide))
   have r8:wr.cell? ⟨w.heap.size,8,none⟩=some (.int .i64 0):=HI.out.r.cell (gC_get _ (by decide))
   have f8:=HI.out.r.frozen 8
   have g9:wr.cell? ⟨gb,9,none⟩=some (.int .i64 (G 9)):=HI.out.g.cell (gC_get G (by decide))
   have r9:wr.cell? ⟨w.heap.size,9,none⟩=some (.int .i64 0):=HI.out.r.cell (gC_get _ (by decide))
   have f9:=HI.out.r.frozen 9
   have g10:wr.cell? ⟨gb,10,none⟩=some (.int .i64 (G 10)):=HI.out.g.cell (gC_get G (by decide))
   have r10:wr.cell? ⟨w.heap.size,10,none⟩=some (.int .i64 0):=HI.out.r.cell (gC_get _ (by decide))
   have f10:=HI.out.r.frozen 10
   have g11:wr.cell? ⟨gb,11,none⟩=some (.int .i64 (G 11)):=HI.out.g.cell (gC_get G (by decide))
   have r11:wr.cell? ⟨w.heap.size,11,none⟩=some (.int .i64 0):=HI.out.r.cell (gC_get _ (by decide))
   have f11:=HI.out.r.frozen 11
   have g12:wr.cell? ⟨gb,12,none⟩=some (.int .i64 (G 12)):=HI.out.g.cell (gC_get G (by decide))
   have r12:wr.cell? ⟨w.heap.size,12,none⟩=some (.int .i64 0):=HI.out.r.cell (gC_get _ (by decide))
   have f12:=HI.out.r.frozen 12
   have g13:wr.cell? ⟨gb,13,none⟩=some (.int .i64 (G 13)):=HI.out.g.cell (gC_get G (by decide))
   have r13:wr.cell? ⟨w.heap.size,13,none⟩=some (.int .i64 0):=HI.out.r.cell (gC_get _ (by decide))
   have f13:=HI.out.r.frozen 13
   have g14:wr.cell? ⟨gb,14,none⟩=some (.int .i64 (G 14)):=HI.out.g.cell (gC_get G (by decide))
   have r14:wr.cell? ⟨w.heap.size,14,none⟩=some (.int .i64 0):=HI.out.r.cell (gC_get _ (by decide))
   have f14:=HI.out.r.frozen 14
   have g15:wr.cell? ⟨gb,15,none⟩=some (.int .i64 (G 15)):=HI.out.g.cell (gC_get G (by decide))
   have r15:wr.cell? ⟨w.heap.size,15,none⟩=some (.int .i64 0):=HI.out.r.cell (gC_get _ (by decide))
   have f15:=HI.out.r.frozen 15
   obtain ⟨wf,hwf,hF⟩:=lc_fill (w0:=w) G 16 (by decide) HI.out.r HI.out.lp HI.out.st (Nat.le_refl _)
   have HF:=Lib.hid hF
   have HWF:=Lib.hid hwf
   clear hF hwf hk hk4
   go_wp2_with fail
   clear g0 r0 f0 g1 r1 f1 g2 r2 f2 g3 r3 f3 g4 r4 f4 g5 r5 f5 g6 r6 f6 g7 r7 f7 g8 r8 f8 g9 r9 f9 g10 r10 f10 g11 r11 f11 g12 r12 f12 g13 r13 f13 g14 r14 f14 g15 r15 f15
   generalize hw:World.setCell _ _ _=w7
   obtain rfl:w7=wf:=by rw [←hw,HWF.out];rfl
   clear hw HWF
   have s0:w7.cell? ⟨w.heap.size,0,none⟩=some (.int .i64 (G 0)):=HF.out.1.cell (gC_get _ (by decide))
   have s1:w7.cell? ⟨w.heap.size,1,none⟩=some (.int .i64 (G 1)):=HF.out.1.cell (gC_get _ (by decide))
   have s2:w7.cell? ⟨w.heap.size,2,none⟩=some (.int .i64 (G 2)):=HF.out.1.cell (gC_get _ (by decide))
   have s3:w7.cell? ⟨w.heap.size,3,none⟩=some (.int .i64 (G 3)):=HF.out.1.cell (gC_get _ (by decide))
   have s4:w7.cell? ⟨w.heap.size,4,none⟩=some (.int .i64 (G 4)):=HF.out.1.cell (gC_get _ (by decide))
   have s5:w7.cell? ⟨w.heap.size,5,none⟩=some (.int .i64 (G 5)):=HF.out.1.cell (gC_get _ (by decide))
   have s6:w7.cell? ⟨w.heap.size,6,none⟩=some (.int .i64 (G 6)):=HF.out.1.cell (gC_get _ (by decide))
   have s7:w7.cell? ⟨w.heap.size,7,none⟩=some (.int .i64 (G 7)):=HF.out.1.cell (gC_get _ (by decide))
   have s8:w7.cell? ⟨w.heap.size,8,none⟩=some (.int .i64 (G 8)):=HF.out.1.cell (gC_get _ (by decide))
   have s9:w7.cell? ⟨w.heap.size,9,none⟩=some (.int .i64 (G 9)):=HF.out.1.cell (gC_get _ (by decide))
   have s10:w7.cell? ⟨w.heap.size,10,none⟩=some (.int .i64 (G 10)):=HF.out.1.cell (gC_get _ (by decide))
   have s11:w7.cell? ⟨w.heap.size,11,none⟩=some (.int .i64 (G 11)):=HF.out.1.cell (gC_get _ (by decide))
   have s12:w7.cell? ⟨w.heap.size,12,none⟩=some (.int .i64 (G 12)):=HF.out.1.cell (gC_get _ (by decide))
   have s13:w7.cell? ⟨w.heap.size,13,none⟩=some (.int .i64 (G 13)):=HF.out.1.cell (gC_get _ (by decide))
   have s14:w7.cell? ⟨w.heap.size,14,none⟩=some (.int .i64 (G 14)):=HF.out.1.cell (gC_get _ (by decide))
   have s15:w7.cell? ⟨w.heap.size,15,none⟩=some (.int .i64 (G 15)):=HF.out.1.cell (gC_get _ (by decide))
   exact bodyPost_ret (v:= .agg (gC G)) (by simp [results,Tryz.results214,go_sem,gC,s0,s1,s2,s3,s4,s5,s6,s7,s8,s9,s10,s11,s12,s13,s14,s15]) rfl ⟨G,rfl,fun e y x hy hx=>HI.out.all e y x hy hx,HF.out.2.1,HF.out.2.2.fin⟩
end Go.Proofs.YthohnjgnpapnoaaGreatDoor
namespace Go.Proofs.YthohnjgnpapnoaaGreatDoor
open Go.RowKit
def QC (Q:Nat→Int):Array Value:=#[.int .i64 (Q 0),.int .i64 (Q 1),.int .i64 (Q 2),.int .i64 (Q 3)]
theorem QC_set (Q:Nat→Int) {k:Nat} (hk:k<4) (r:Int):(QC Q).setIfInBounds k (.int .i64 r)=QC (upd Q k r):=by
 rcases (by omega:k=0∨k=1∨k=2∨k=3) with rfl | rfl | rfl | rfl<;>rfl
theorem QC_get (Q:Nat→Int) {k:Nat} (hk:k<4):(QC Q)[k]? =some (.int .i64 (Q k)):=by
 rcases (by omega:k=0∨k=1∨k=2∨k=3) with rfl | rfl | rfl | rfl<;>rfl
def upto (T:Nat→Tree):Nat→List Thing
 | 0=>[]
 | j+1=>upto T j++nodes (T j)
theorem upto_four (T:Nat→Tree):∀x∈upto T 4,x∈nodes (.node (T 0) (T 1) (T 2) (T 3)):=fun x hx=>by
 simp only [upto,List.nil_append,List.mem_append] at hx
 rw [mem_nodes]
 rcases hx with ((h | h) | h) | h
 ·exact .inr (.inl h)
 ·exact .inr (.inr (.inl h))
 ·exact .inr (.inr (.inr (.inl h)))
 ·exact .inr (.inr (.inr (.inr h)))
structure QuadI (w1:World) (hb qb:Nat) (ty:TypeId) (more:List Value) (p:Nat) (R:ArR) (S:ArS) (A:Nat→Abs) (t:Nat) (bad:Int) (T:Nat→Tree) (j:Nat) (Q:Nat→Int) (S':ArS) (A':Nat→Abs) (R':ArR) (bad':Int) (wx:World):Prop where
 made:Made t (upto T j) S A bad S' A' bad'
 has:bad'=0→∀k,k<j→Has S' A' t (Q k) (T k)
 hd:Hd wx hb ty more p R' S' A' t bad'
 q:Blk wx qb 22 (QC Q)
 st:StepH (fun b=>b=hb∨b=qb) p R R' w1 wx
section
variable {w w0 w1 w2 wx : World} {hb qb : Nat} {ty : TypeId} {more : List Value} {p : Nat} {R R' R2 : ArR} {S S' S2 : ArS} {A A' A2 : Nat → Abs} {t : Nat} {bad bad' bad2 : Int} {T : Nat → Tree} {j : Nat} {Q : Nat → Int}
theorem QuadI.start (h:Hd w1 hb ty more p R S A t bad) (hq:Blk w1 qb 22 #[.int .i64 0,.int .i64 0,.int .i64 0,.int .i64 0]) (T:Nat→Tree):QuadI w1 hb qb ty more p R S A t bad T 0 (fun _=>0) S A R bad w1:=
 ⟨Made.refl h.rel t bad,fun _ _k hk=>absurd hk (Nat.not_lt_zero _),h,hq,StepH.refl _ p R w1⟩
theorem QuadI.step (h:QuadI w1 hb qb ty more p R S A t bad T j Q S' A' R' bad' wx) (hlt:qb<w1.heap.size) (hno:¬Own p R qb) (hne:qb≠hb) (hj:j<4) {r:Int} (hm:Made t (nodes (T j)) S' A' bad' S2 A2 bad2) (hh:bad2=0→Has S2 A2 t r (T j))
 (hd:Hd w2 hb ty more p R2 S2 A2 t bad2) (hst:StepH (fun b=>b=hb) p R' R2 wx w2):
 w2.cell? ⟨qb,j,none⟩=some (.int .i64 (Q j))∧w2.frozen? ⟨qb,j,none⟩=false∧QuadI w1 hb qb ty more p R S A t bad T (j+1) (upd Q j r) S2 A2 R2 bad2 (w2.setCell ⟨qb,j,none⟩ (.int .i64 r)):=by
 have hno':¬Own p R' qb:=h.st.not hlt hno
 have hq2:Blk w2 qb 22 (QC Q):=h.q.mod hst.mod fun ho=>by
  rcases ho with ho | ho
  ·exact hno' ho
  ·exact hne ho
 have hno2:¬Own p R2 qb:=hst.not h.q.lt hno'
 refine ⟨hq2.cellS (QC_get Q hj),hq2.frozen j,⟨h.made.trans hm,fun e k hk=>?_,hd.keep (T:=fun b=>b=qb) ((Mod.refl (fun b=>b=qb) w2).set (p:=⟨qb,j,none⟩) (fun _=>rfl) _) (fun b hb e=>by subst e;exact hno2 hb) (Ne.symm hne),?_,?_⟩⟩
 ·by_cases e2:k=j
  ·subst e2;rw [upd_same];exact hh e
  ·rw [upd_ne _ _ e2]
   exact (h.has ((hm.ok e).1) k (by omega)).st hd.ht hm.st
 ·rw [←QC_set Q hj];exact hq2.set j _
 ·exact (h.st.trans (hst.wide fun b _ e=> .inl e)).set (q:=⟨qb,j,none⟩) (fun _=> .inr rfl) _
theorem QuadI.parts {h x y:Int} {l:List (Int×Int)} {V:Nat→Value} {m:Nat} (H:Hd w hb ty more p R S A t bad) (hP:PartI w h x y l V m w0) (hl:l.length=m) (ob:Obj) (hI:QuadI (w0.alloc ob) hb w0.heap.size ty more p R S A t bad T j Q S' A' R' bad' wx) {k:Nat} (hk:k<4):
 wx.cell? ⟨w.heap.size,k,none⟩=some (V k)∧Rd wx wx.heap.size 2 (V k) (part h x y k l).length (flat (part h x y k l)):=by
 have h1:=H.blk.lt
 have h2:=hP.blk.lt
 have hT:l.take m=l:=by rw [←hl];exact List.take_length
 have key:∀b,w.heap.size≤b→b<w0.heap.size→wx.heap[b]? =(w0.alloc ob).heap[b]? :=fun b g1 g2=>
  hI.st.mod.block b (by simp;omega) fun ho=>by
   rcases ho with ho | ho | ho
   ·have:=H.arm.own_lt ho;omega
   ·omega
   ·omega
 constructor
 ·have:=(hP.blk.alloc ob).cellS (VC_get V hk)
  exact (World.cell?_of_block (a:=⟨w.heap.size,k,none⟩) (key w.heap.size (Nat.le_refl _) h2)).trans this
 ·have hs:=(hP.sl k hk)
  rw [hT] at hs
  exact ((hs.alloc ob).of_blk fun b hb=>by
   have:=hP.fr k hk b hb
   exact key b (by omega) (hs.lt hb).1).rd
theorem QuadI.quad_end {h x y:Int} {l:List (Int×Int)} {V:Nat→Value} {m:Nat} {ob:Obj} (hI:QuadI (w0.alloc ob) hb w0.heap.size ty more p R S A t bad T j Q S' A' R' bad' wx) (_H:Hd w hb ty more p R S A t bad) (hP:PartI w h x y l V m w0) (hst:StepH (fun b=>b=hb) p R' R2 wx w2):StepH (fun b=>b=hb) p R R2 w w2:=by
 have h2:=hP.blk.lt
 have s1:StepH (fun b=>b=hb∨b=w0.heap.size) p R R w (w0.alloc ob):=StepH.of_below (hP.bl.alloc hP.bl.size ob)
 exact ((s1.trans hI.st).trans (hst.wide fun b _ e=> .inl e)).wide fun b hb e=>by
  rcases e with e | e
  ·exact e
  ·omega
end
end Go.Proofs.YthohnjgnpapnoaaGreatDoor
namespace Go.Proofs.YthohnjgnpapnoaaGreatDoor
open Go.RowKit
def PS (G:Nat→Int) (k:Nat):Nat→Int
 | 0=> -G ((1+k/2)*4+(1+k%2))
 | m+1=>PS G k m+G ((k/2+m/3)*4+(k%2+m%3))
theorem PS_bd {G:Nat→Int} (h:∀i,i<16→0≤G i∧G i≤1) {k:Nat} (hk:k<4):∀{m:Nat},m≤9→-1≤PS G k m∧PS G k m≤m
 | 0,_=>by have:=h ((1+k/2)*4+(1+k%2)) (by omega);rw [PS];omega
 | m+1,hm=>by have:=h ((k/2+m/3)*4+(k%2+m%3)) (by omega);have:=PS_bd h hk (m:=m) (by omega);rw [PS];omega
theorem PS_near {G:Nat→Int} {g:Nat→Nat→Tree} (h:∀y x,y<4→x<4→G (y*4+x)=oneT (g y x)) {k:Nat} (hk:k<4):PS G k 9=nearT g (k/2) (k%2):=by
 have e:k=0∨k=1∨k=2∨k=3:=by omega
 have hh:∀y x,y<4→x<4→oneT (g y x)=G (y*4+x):=fun y x a b=>(h y x a b).symm
 unfold nearT
 rw [hh _ _ (by omega) (by omega),hh _ _ (by omega) (by omega),hh _ _ (by omega) (by omega),hh _ _ (by omega) (by omega),hh _ _ (by omega) (by omega),hh _ _ (by omega) (by omega),hh _ _ (by omega) (by omega),hh _ _ (by omega) (by omega)]
 rcases e with rfl | rfl | rfl | rfl<;>simp [PS]<;>omega
theorem near_bd (g:Nat→Nat→Tree) (y x:Nat):0≤nearT g y x∧nearT g y x≤8:=by
 have h:∀T,0≤oneT T∧oneT T≤1:=fun T=>by unfold oneT;split<;>omega
 unfold nearT
 have:=h (g y x);have:=h (g y (x+1));have:=h (g y (x+2));have:=h (g (y+1) x);have:=h (g (y+1) (x+2));have:=h (g (y+2) x);have:=h (g (y+2) (x+1));have:=h (g (y+2) (x+2))
 omega
structure SmallI (w:World) (hb p:Nat) (R:ArR) (S:ArS) (A:Nat→Abs) (t:Nat) (b l:Int) (G:Nat→Int) (g:Nat→Nat→Tree) (Q:Nat→Int) (k:Nat) (wx:World):Prop where
 lp:Lp wx hb p R S A t b l 0
 gg:Lc wx p R hb w.heap.size 302 (gC G)
 q:Lc wx p R hb (w.heap.size+1) 22 (QC Q)
 st:StepN hb p R R w wx
 told:∀k',k'<k→Q k'=oneT (liveT b l g (k'/2) (k'%2))
 rest:∀k',k≤k'→Q k'=0
section
variable {w wx w1 : World} {hb p : Nat} {R : ArR} {S : ArS} {A : Nat → Abs} {t : Nat} {b l : Int} {G : Nat → Int} {g : Nat → Nat → Tree} {Q : Nat → Int} {k : Nat}
theorem SmallI.below (h:SmallI w hb p R S A t b l G g Q k wx) (hb':Below wx.heap.size wx w1):SmallI w hb p R S A t b l G g Q k w1:=
 ⟨h.lp.below hb',h.gg.below hb',h.q.below hb',h.st.below hb',h.told,h.rest⟩
theorem SmallI.yes (h:SmallI w hb p R S A t b l G g Q k wx) (hk:k<4) (hl:liveT b l g (k/2) (k%2)= .alive):SmallI w hb p R S A t b l G g (upd Q k 1) (k+1) (wx.setCell ⟨w.heap.size+1,k,none⟩ (.int .i64 1)):=by
 refine ⟨h.lp.lset h.q _ _,h.gg.far (by omega) _ _,?_,h.st.lset (by omega) _ _,fun k' hk'=>?_,fun k' hk'=>?_⟩
 ·rw [←QC_set Q hk];exact h.q.set _ _
 ·by_cases e:k'=k
  ·subst e;rw [upd_same,hl];rfl
  ·rw [upd_ne _ _ e];exact h.told k' (by omega)
 ·rw [upd_ne _ _ (by omega)];exact h.rest k' (by omega)
theorem SmallI.no (h:SmallI w hb p R S A t b l G g Q k wx) (hl:liveT b l g (k/2) (k%2)= .dead):SmallI w hb p R S A t b l G g Q (k+1) wx:=
 ⟨h.lp,h.gg,h.q,h.st,fun k' hk'=>by
  by_cases e:k'=k
  ·subst e;rw [h.rest k' (Nat.le_refl _),hl];rfl
  ·exact h.told k' (by omega),fun k' hk'=>h.rest k' (by omega)⟩
theorem has_one {T:Tree} (hT:T= .dead∨T= .alive):Has S A t (oneT T) T:=by
 rcases hT with rfl | rfl
 ·exact ⟨by simp only [Den];rfl,rfl⟩
 ·exact ⟨by simp only [Den];rfl,rfl⟩
end
set_option maxRecDepth 100000 in
set_option maxHeartbeats 12800000 in
theorem lsmall_any (w:World) (hb p:Nat) (R:ArR) (S:ArS) (A:Nat→Abs) (t:Nat) (b l:Int) (h:Lp w hb p R S A t b l 0) (hg:goodR b l)
 (G:Nat→Int) (g:Nat→Nat→Tree) (hG:∀y x,y<4→x<4→G (y*4+x)=oneT (g y x)) (hl1:∀y x,y<4→x<4→g y x= .dead∨g y x= .alive):
 Calls Tryz.prog 215 #[.pointer (some ⟨hb,0,none⟩),.agg (gC G)] w (LpPost w hb p R S A t b l 0 (smallT b l g) (fun V=>Thing.sq (liveT b l g 0 0) (liveT b l g 0 1) (liveT b l g 1 0) (liveT b l g 1 1)∈V)):=by
 have H0:Hid (SmallI w hb p R S A t b l G g (fun _=>0) 0 ((w.alloc (.cells (gC G) 302)).alloc (.cells #[.int .i64 0,.int .i64 0,.int .i64 0,.int .i64 0] 22))):=by
  have h1:=h.alloc (.cells (gC G) 302)
  have hq:=Lc.new h1 22 (QC fun _=>0)
  rw [World.size_alloc] at hq
  exact ⟨h1.alloc _,(Lc.new h _ _).alloc _,hq,((StepN.refl hb p R w).alloc _).alloc _,fun _ h=>absurd h (Nat.not_lt_zero _),fun _ _=>rfl⟩
 have H01:∀i,i<16→0≤G i∧G i≤1:=fun i hi=>by
  have:=hG (i/4) (i%4) (by omega) (by omega)
  rw [show i/4*4+i%4=i by omega] at this
  rw [this];unfold oneT;split<;>omega
 have HG:=Lib.hid hG
 have HGD:=Lib.hid hg
 have HL1:=Lib.hid hl1
 have HBD:=Lib.hid (fun k (hk:k<4) m (hm:m≤9)=>PS_bd (G:=G) H01 hk hm)
 have H01:=Lib.hid H01
 clear h hG hg hl1
 unfold gC at H0
 unfold gC
 go_enter Tryz.func215,Tryz.ntmps215
 go_wp2_with fail
 generalize World.alloc (World.alloc w _) _=w2 at H0 ⊢
 go_loopw [12] (fun iv wx=>∃(k:Nat) (Q:Nat→Int),iv= .int .i64 k∧k≤4∧SmallI w hb p R S A t b l G g Q k wx) (fun iv _=>4-(intOf iv).toNat)
 case atStart=>exact ⟨0,_,rfl,Nat.zero_le _,H0.out⟩
 case round=>
  obtain ⟨k,Q,rfl,hk,hI⟩:=hrel
  have HI:=Lib.hid hI
  clear hI
  by_cases hk4:k<4
  ·have hc:=HI.out.gg.cell (gC_get G (i:=(1+k/2)*4+(1+k%2)) (by omega))
   have k4:k=0∨k=1∨k=2∨k=3:=by omega
   have HK4:=Lib.hid hk4
   have hb0:=H01.out ((1+k/2)*4+(1+k%2)) (by omega)
   obtain ⟨κ,hκ⟩:∃κ,κ=k:=⟨_,rfl⟩
   have HKE:=Lib.hid hκ
   rw [←hκ] at HI HK4
   have HP0:Hid (PS G κ 0= -G ((1+k/2)*4+(1+k%2))):=by rw [hκ];rfl
   clear hk hk4 hκ
   rcases k4 with rfl | rfl | rfl | rfl
   all_goals (
    (first | rw [show ((0:Nat):Int)=0 from rfl] | rw [show ((1:Nat):Int)=1 from rfl] | rw [show ((2:Nat):Int)=2 from rfl] | rw [show ((3:Nat):Int)=3 from rfl])
    simp only [Nat.reduceDiv,Nat.reduceMod,Nat.reduceMul,Nat.reduceAdd] at hc hb0 HP0
    obtain ⟨hb0,hb1⟩:=hb0
    go_wp2_with fail
    go_loopw [10,9] (fun dv nv wx=>∃m:Nat,m≤3∧dv= .int .i64 ((m:Int)-1)∧nv= .int .i64 (PS G κ (3*m))∧wx=wr) (fun dv _ _=>(2-intOf dv).toNat)
    case atStart=>exact ⟨0,by decide,rfl,by rw [Nat.mul_zero,HP0.out],rfl⟩
    case round=>
     clear hc hb0 hb1
     obtain ⟨m,hm,rfl,rfl,rfl⟩:=hrel
     by_cases hm3:m<3
     ·have m3:m=0∨m=1∨m=2:=by omega
      have HM3:=Lib.hid hm3
      obtain ⟨μ,hμ⟩:∃μ,μ=m:=⟨_,rfl⟩
      have HME:=Lib.hid hμ
      obtain ⟨ps,hps⟩:∃ps,ps=PS G κ (3*m):=⟨_,rfl⟩
      rw [←hps]
      rw [←hμ] at hps HM3
      have HPS:=Lib.hid hps
      clear hm hm3 hμ hps
      rcases m3 with rfl | rfl | rfl
      all_goals (
       (first | rw [show ((0:Nat):Int)-1= -1 from rfl] | rw [show ((1:Nat):Int)-1=0 from rfl] | rw [show ((2:Nat):Int)-1=1 from rfl])
       go_wp2_with fail
       go_loopw [11,9] (fun dv nv wx=>∃m:Nat,m≤3∧dv= .int .i64 ((m:Int)-1)∧nv= .int .i64 (PS G κ (3*μ+m))∧wx=wr) (fun dv _ _=>(2-intOf dv).toNat)
       case atStart=>exact ⟨0,by decide,rfl,by rw [HPS.out];rfl,rfl⟩
       case round=>
        obtain ⟨m,hm,rfl,rfl,rfl⟩:=hrel
        by_cases hm3:m<3
        ·have m3:m=0∨m=1∨m=2:=by omega
         have hix:(κ/2+(3*μ+m)/3)*4+(κ%2+(3*μ+m)%3)<16:=by have:=HK4.out;have:=HM3.out;omega
         have hc:=HI.out.gg.cell (gC_get G hix)
         obtain ⟨hb0,hb1⟩:=H01.out _ hix
         obtain ⟨hn0,hn1⟩:=HBD.out κ HK4.out (3*μ+m) (by have:=HM3.out;omega)
         have HST:Hid (PS G κ (3*μ+m+1)=PS G κ (3*μ+m)+G ((κ/2+(3*μ+m)/3)*4+(κ%2+(3*μ+m)%3))):=rfl
         have hn2:PS G κ (3*μ+m)≤9:=by have:=HM3.out;omega
         generalize PS G κ (3*μ+m)=ps2 at*
         obtain ⟨χ,hχ⟩:∃χ,χ=m:=⟨_,rfl⟩
         rw [←hχ] at HST
         have HCE:=Lib.hid hχ
         rw [HKE.out,HME.out] at hc hb0 hb1
         clear hm hm3 hχ hn1 hix
         rcases m3 with rfl | rfl | rfl
         all_goals (
          (first | rw [show ((0:Nat):Int)-1= -1 from rfl] | rw [show ((1:Nat):Int)-1=0 from rfl] | rw [show ((2:Nat):Int)-1=1 from rfl])
          simp only [Nat.reduceDiv,Nat.reduceMod,Nat.reduceMul,Nat.reduceAdd] at hc hb0 hb1
          go_wp2_with fail
          refine ⟨⟨χ+1,?_,?_,?_,by first | rfl | trivial⟩,?_⟩
          ·rw [HCE.out];decide
          ·rw [HCE.out];rfl
          ·rw [←Nat.add_assoc,HST.out,HKE.out,HME.out,HCE.out]
          ·simp [intOf])
        ·obtain rfl:m=3:=by omega
         go_wp2_with fail
         refine ⟨⟨μ+1,?_,?_,rfl,by first | rfl | trivial⟩,?_⟩
         ·rw [HME.out];decide
         ·rw [HME.out];rfl
         ·simp [intOf])
     ·obtain rfl:m=3:=by omega
      have hix:(1+κ/2)*4+(1+κ%2)<16:=by have:=HK4.out;omega
      have hcc:=HI.out.gg.cell (gC_get G hix)
      have HGX:Hid (G ((1+κ/2)*4+(1+κ%2))=oneT (g (κ/2+1) (κ%2+1))):=by
       have:=HG.out (κ/2+1) (κ%2+1) (by have:=HK4.out;omega) (by omega)
       show _=_
       rw [←this];congr 1;omega
      obtain ⟨al,hal⟩:∃al,(G ((1+κ/2)*4+(1+κ%2))==1)=al:=⟨_,rfl⟩
      have HAL:Hid (al=aliveB (g (κ/2+1) (κ%2+1))):=by
       show _=_
       rw [←hal,HGX.out]
       unfold oneT aliveB
       by_cases q:g (κ/2+1) (κ%2+1)= .alive
       ·rw [if_pos q];simp [q]
       ·rw [if_neg q];simp [q]
      obtain ⟨N,hN1,hN2,hN3⟩:∃N:Nat,PS G κ (3*3)=(N:Int)∧N≤8∧N=(nearT g (κ/2) (κ%2)).toNat:=by
       have h1:=PS_near (G:=G) (g:=g) HG.out HK4.out
       have h2:=near_bd g (κ/2) (κ%2)
       exact ⟨(nearT g (κ/2) (κ%2)).toNat,by rw [show 3*3=9 from rfl,h1];omega,by omega,rfl⟩
      rw [hN1]
      have HLV:=Lib.hid (fun w=>lives_any w b l HGD.out.1 HGD.out.2.1 al N hN2)
      have HLT:Hid (liveT b l g (κ/2) (κ%2)=if bitB (if al then l else b) N then .alive else .dead):=by
       show _=_
       unfold liveT;rw [←hN3,←HAL.out]
      generalize G ((1+κ/2)*4+(1+κ%2))=x at hcc hal
      generalize bitB (if al=true then l else b) N=lv at*
      rw [HKE.out] at hcc
      simp only [Nat.reduceDiv,Nat.reduceMod,Nat.reduceMul,Nat.reduceAdd] at hcc
      clear hN1 hN2 hN3 hix hm hm3 HGX HAL
      have c2:=HI.out.lp.c2
      have c3:=HI.out.lp.c3
      go_wp2_with fail
      go_region_law (first | (go_simp;go_at_call 225;refine (HLV.out _).mono ?_;rintro e w4 ⟨rfl,hbl⟩))
      all_goals (
       have HI4:Hid (SmallI w hb p R S A t b l G g Q κ w4):=HI.out.below (w1:=w4) ⟨hbl.os,hbl.tape,hbl.output,hbl.size,hbl.block⟩
       have hqc:w4.cell? ⟨w.heap.size+1,κ,none⟩=some (.int .i64 (Q κ)):=HI4.out.q.cell (QC_get Q HK4.out)
       have hqf:=HI4.out.q.frozen κ
       rw [HKE.out] at hqc hqf
       clear hbl hcc c2 c3 hal
       cases lv
       ·have HN:=Lib.hid (HI4.out.no (by rw [HLT.out];rfl))
        go_wp2_with fail
        refine ⟨⟨κ+1,Q,?_,?_,HN.out⟩,?_⟩
        ·rw [HKE.out];rfl
        ·rw [HKE.out];decide
        ·simp [intOf]
       ·have HY:=Lib.hid (HI4.out.yes HK4.out (by rw [HLT.out];rfl))
        go_wp2_with fail
        refine ⟨⟨κ+1,upd Q κ 1,?_,?_,?_⟩,?_⟩
        ·rw [HKE.out];rfl
        ·rw [HKE.out];decide
        ·have h:=HY.out
         rw [HKE.out] at h ⊢
         exact h
        ·simp [intOf]))
  ·obtain rfl:k=4:=by omega
   have q0:=HI.out.q.cell (QC_get Q (k:=0) (by decide))
   have q1:=HI.out.q.cell (QC_get Q (k:=1) (by decide))
   have q2:=HI.out.q.cell (QC_get Q (k:=2) (by decide))
   have q3:=HI.out.q.cell (QC_get Q (k:=3) (by decide))
   have HH:Hid (∀k,k<4→Has S A t (Q k) (liveT b l g (k/2) (k%2))):=fun k hk=>by
    rw [HI.out.told k hk];exact has_one (live_pf ..)
   have HJN:=Lib.hid (fun w2 (h2:Lp w2 hb p R S A t b l 0)=>ljoin_any w2 hb p R S A t b l 0 h2 (Q 0) (Q 1) (Q 2) (Q 3) (liveT b l g 0 0) (liveT b l g 0 1) (liveT b l g 1 0) (liveT b l g 1 1) 0 (fun _=>⟨HH.out 0 (by decide),HH.out 1 (by decide),HH.out 2 (by decide),HH.out 3 (by decide)⟩) ⟨(live_pf ..).lvl,(live_pf ..).lvl,(live_pf ..).lvl,(live_pf ..).lvl⟩ (by decide))
   clear hk hk4
   go_wp2_with fail
   (with_reducible refine (HJN.out _ HI.out.lp).mono ?_)
   intro e w5 hq
   unfold LpPost at hq
   obtain ⟨r,S',A',R',bad',rfl,hgw,hh,hp,hs⟩:=hq
   have HGW:=Lib.hid hgw
   have HHS:=Lib.hid hh
   have HPP:=Lib.hid hp
   have HSS:=Lib.hid (HI.out.st.step hs).fin
   clear hgw hh hp hs q0 q1 q2 q3 HJN
   go_wp2_with fail
   go_returns
   exact ⟨r,S',A',R',bad',rfl,HGW.out,HHS.out,HPP.out,HSS.out⟩
end Go.Proofs.YthohnjgnpapnoaaGreatDoor
namespace Go.Proofs.YthohnjgnpapnoaaGreatDoor
open Go.RowKit
def noteK (s r j:Int):KeyA:=⟨1,s,r,j,0⟩
theorem noteK_ok {s r j:Int} (hs:i64r s) (hr:i64r r) (hj:i64r j):(noteK s r j).ok:=⟨⟨by show (-9223372036854775808:Int)≤1;decide,by show (1:Int)≤9223372036854775807;decide⟩,hs,hr,hj,⟨by show (-9223372036854775808:Int)≤0;decide,by show (0:Int)≤9223372036854775807;decide⟩⟩
inductive NoteR (S:ArS) (t:Nat) (s r j v:Int):Int→ArS→Prop
 | none:ownsB S t s 0=false∨ownsB S t v 0=false→NoteR S t s r j v 6 S
 | twice (i:Nat) (e:EntD):ownsB S t s 0=true→ownsB S t v 0=true→S.idx (noteK s r j)=some (i:Int)→S.ents[i]? =some e→e.value≠v→NoteR S t s r j v 7 S
 | gives (id x:Int) (S':ArS):ownsB S t s 0=true→ownsB S t v 0=true→(∀(i:Nat) e,S.idx (noteK s r j)=some (i:Int)→S.ents[i]? =some e→e.value=v)→GiveR S t (noteK s r j) 0 v id x S'→NoteR S t s r j v x S'
def NotePost (w:World) (p:Nat) (R:ArR) (S:ArS) (t:Nat) (s r j v:Int) (e:Ending) (w':World):Prop:=
 ∃(x:Int) (S':ArS) (R':ArR),e= .returned (.int .i64 x)∧NoteR S t s r j v x S'∧ArM w' p R' S'∧Step p R R' w w'
set_option maxRecDepth 100000 in
set_option maxHeartbeats 3200000 in
theorem note_any (w:World) (p:Nat) (R:ArR) (S:ArS) (h:ArM w p R S) (hI:Inv S) (hl:S.live=S.size) (t:Nat) (ht:t<64) (hal:(S.added t).length≤1000000) (s r j v:Int) (hr:i64r r) (hj:i64r j):
 Calls Tryz.prog 218 #[.pointer (some ⟨p,0,none⟩),.int .i64 t,.int .i64 s,.int .i64 r,.int .i64 j,.int .i64 v] w (NotePost w p R S t s r j v):=by
 have H:=Lib.hid h
 have HI:=Lib.hid hI
 have HL:=Lib.hid hl
 have HLN:=Lib.hid hal
 have HR:=Lib.hid hr
 have HJ:=Lib.hid hj
 have k4:(t:Int)<64:=by omega
 have HO1:=Lib.hid (owns_any w p R S h hI.len t ht s 0)
 have HO2:=Lib.hid (owns_any w p R S h hI.len t ht v 0)
 clear h hI hl hal hr hj
 cases h1:ownsB S t s 0
 ·rw [h1] at HO1
  have HN:=Lib.hid h1
  clear h1
  go_enter Tryz.func218,Tryz.ntmps218
  go_wp2_with fail
  (with_reducible refine (tenant_any _ t).mono ?_)
  rintro e wq ⟨rfl,rfl⟩
  rw [decide_eq_true (show 0≤(t:Int)∧(t:Int)<64 by omega)]
  go_wp2_with fail
  (with_reducible refine HO1.out.mono ?_)
  rintro e wq ⟨rfl,rfl⟩
  go_wp2_with fail
  go_returns
  exact ⟨6,S,R,rfl,.none (.inl HN.out),H.out,Step.refl _ _ _⟩
 ·rw [h1] at HO1
  have HN1:=Lib.hid h1
  clear h1
  cases h2:ownsB S t v 0
  ·rw [h2] at HO2
   have HN:=Lib.hid h2
   clear h2
   go_enter Tryz.func218,Tryz.ntmps218
   go_wp2_with fail
   (with_reducible refine (tenant_any _ t).mono ?_)
   rintro e wq ⟨rfl,rfl⟩
   rw [decide_eq_true (show 0≤(t:Int)∧(t:Int)<64 by omega)]
   go_wp2_with fail
   (with_reducible refine HO1.out.mono ?_)
   rintro e wq ⟨rfl,rfl⟩
   go_wp2_with fail
   (with_reducible refine HO2.out.mono ?_)
   rintro e wq ⟨rfl,rfl⟩
   go_wp2_with fail
   go_returns
   exact ⟨6,S,R,rfl,.none (.inr HN.out),H.out,Step.refl _ _ _⟩
  ·rw [h2] at HO2
   have HN2:=Lib.hid h2
   clear h2
   have HK:=Lib.hid (noteK_ok (own_i64 HI.out HN1.out) HR.out HJ.out)
   go_enter Tryz.func218,Tryz.ntmps218
   go_wp2_with fail
   (with_reducible refine (tenant_any _ t).mono ?_)
   rintro e wq ⟨rfl,rfl⟩
   rw [decide_eq_true (show 0≤(t:Int)∧(t:Int)<64 by omega)]
   go_wp2_with fail
   (with_reducible refine HO1.out.mono ?_)
   rintro e wq ⟨rfl,rfl⟩
   go_wp2_with fail
   (with_reducible refine HO2.out.mono ?_)
   rintro e wq ⟨rfl,rfl⟩
   go_wp2_with fail
   generalize hw2:World.alloc _ _=w2
   have HA2:Hid (ArM w2 p R S):=by subst hw2;exact H.out.alloc _
   have HS2:Hid (Step p R R w w2):=by subst hw2;exact (Step.refl p R w).alloc _
   have HB2:Hid (Blk w2 w.heap.size 170 #[.int .i64 1,.int .i64 s,.int .i64 r,.int .i64 j,.int .i64 0]):=by subst hw2;exact Blk.new w _ _
   have b0:=HB2.out.cellS (i:=0) rfl
   have b1:=HB2.out.cellS (i:=1) rfl
   have b2:=HB2.out.cellS (i:=2) rfl
   have b3:=HB2.out.cellS (i:=3) rfl
   have b4:=HB2.out.cellS (i:=4) rfl
   have c2:=HA2.out.cIdx
   obtain ⟨x,hlk,hlv⟩:=HA2.out.drew.idx.look HK.out
   have HV:=Lib.hid hlv
   unfold KeyA.val noteK at hlk
   clear hw2 hlv
   generalize hox:S.idx ⟨1,s,r,j,0⟩=ox at*
   have HOX:Hid (S.idx (noteK s r j)=ox):=hox
   clear hox
   go_region
   clear hlk b0 b1 b2 b3 b4 c2
   have HA3:=Lib.hid HA2.out.drew
   have HS3:=Lib.hid HS2.out.drew
   have HB3:Hid (Blk w2.drew w.heap.size 170 #[.int .i64 1,.int .i64 s,.int .i64 r,.int .i64 j,.int .i64 0]):=HB2.out.drew
   generalize World.drew _=w3 at HA3 HS3 HB3 ⊢
   cases ox with
   | none=>
     have b0:=HB3.out.cellS (i:=0) rfl
     have b1:=HB3.out.cellS (i:=1) rfl
     have b2:=HB3.out.cellS (i:=2) rfl
     have b3:=HB3.out.cellS (i:=3) rfl
     have b4:=HB3.out.cellS (i:=4) rfl
     go_wp2_with fail
     have hg:=give_any _ p R S HA3.out HI.out HL.out t ht HLN.out (noteK s r j) HK.out 0 v ⟨Int.le_refl _,by decide⟩
     unfold noteK at hg
     (with_reducible refine hg.mono ?_)
     rintro e w4 ⟨id,x,S',R',rfl,hgr,hA4,hs4⟩
     have HGR:=Lib.hid hgr
     have HA4:=Lib.hid hA4
     have HS4:=Lib.hid (HS3.out.trans hs4)
     clear hg hgr hA4 hs4
     go_wp2_with fail
     go_returns
     exact ⟨x,S',R',rfl,.gives id x S' HN1.out HN2.out (fun i e h=>by rw [HOX.out] at h;cases h) HGR.out,HA4.out,HS4.out⟩
   | some y=>
     have hxy:x=y:=HV.out y HOX.out
     subst hxy
     obtain ⟨i,e,rfl,h2,he,hek⟩:=HI.out.idx _ _ HOX.out
     obtain ⟨b,off,cap,hlv,hc1,hc2,hc,hfr⟩:=HA3.out.ents (by have:=HI.out.len;omega)
     have c0:=HA3.out.cList
     rw [hlv] at c0
     have c6:w3.cell? ⟨b,off+i*8+6,none⟩=some (.int .i64 e.value):=hc i e 6 _ he rfl
     have hil:(i:Int)<(S.ents.length:Int):=by have:=(List.getElem?_eq_some_iff.1 he).1;omega
     have HE:=Lib.hid he
     clear hlv hc hfr hc1 h2 hek he
     by_cases hv:e.value=v
     ·have hv2:(e.value==v)=true:=by rw [beq_iff_eq];exact hv
      have HVV:=Lib.hid hv
      rw [hv] at c6
      clear hv hv2
      have b0:=HB3.out.cellS (i:=0) rfl
      have b1:=HB3.out.cellS (i:=1) rfl
      have b2:=HB3.out.cellS (i:=2) rfl
      have b3:=HB3.out.cellS (i:=3) rfl
      have b4:=HB3.out.cellS (i:=4) rfl
      go_wp2_with fail
      have hg:=give_any _ p R S HA3.out HI.out HL.out t ht HLN.out (noteK s r j) HK.out 0 v ⟨Int.le_refl _,by decide⟩
      unfold noteK at hg
      (with_reducible refine hg.mono ?_)
      rintro e w4 ⟨id,x,S',R',rfl,hgr,hA4,hs4⟩
      have HGR:=Lib.hid hgr
      have HA4:=Lib.hid hA4
      have HS4:=Lib.hid (HS3.out.trans hs4)
      clear hg hgr hA4 hs4
      go_wp2_with fail
      go_returns
      exact ⟨x,S',R',rfl,.gives id x S' HN1.out HN2.out (fun i' e' h he'=>by
       have h3:=Option.some.inj (HOX.out.symm.trans h)
       have h4:i'=i:=by omega
       subst h4
       rw [HE.out] at he';cases he';exact HVV.out) HGR.out,HA4.out,HS4.out⟩
     ·have hv2:(e.value==v)=false:=by rw [beq_eq_false_iff_ne];exact hv
      go_wp2_with fail
      go_returns
      exact ⟨7,S,R,rfl,.twice i e HN1.out HN2.out HOX.out HE.out hv,HA3.out,HS3.out⟩
end Go.Proofs.YthohnjgnpapnoaaGreatDoor
namespace Go.Proofs.YthohnjgnpapnoaaGreatDoor
open Go.RowKit
def RecallPost (w:World) (p:Nat) (R:ArR) (S:ArS) (t:Nat) (s r j:Int) (e:Ending) (w':World):Prop:=
 ∃(v:Int) (is:Bool),e= .returned (.tuple #[.int .i64 v,.bool is])∧(is=true↔∃i:Nat,S.idx (noteK s r j)=some (i:Int)∧ownsB S t i 1=true)∧(is=true→∃(i:Nat) (e:EntD),S.idx (noteK s r j)=some (i:Int)∧S.ents[i]? =some e∧e.value=v)∧ArM w' p R S∧Step p R R w w'
set_option maxRecDepth 100000 in
set_option maxHeartbeats 3200000 in
theorem recall_any (w:World) (p:Nat) (R:ArR) (S:ArS) (h:ArM w p R S) (hI:Inv S) (t:Nat) (ht:t<64) (s r j:Int) (hs:i64r s) (hr:i64r r) (hj:i64r j):
 Calls Tryz.prog 212 #[.pointer (some ⟨p,0,none⟩),.int .i64 t,.int .i64 s,.int .i64 r,.int .i64 j] w (RecallPost w p R S t s r j):=by
 have H:=Lib.hid h
 have HI:=Lib.hid hI
 have HK:=Lib.hid (noteK_ok hs hr hj)
 have k4:(t:Int)<64:=by omega
 clear h hI hs hr hj
 go_enter Tryz.func212,Tryz.ntmps212
 go_wp2_with fail
 (with_reducible refine (tenant_any _ t).mono ?_)
 rintro e wq ⟨rfl,rfl⟩
 rw [decide_eq_true (show 0≤(t:Int)∧(t:Int)<64 by omega)]
 have c2:=H.out.cIdx
 obtain ⟨x,hlk,hlv⟩:=H.out.idx.look HK.out
 have HV:=Lib.hid hlv
 unfold KeyA.val noteK at hlk
 clear hlv
 generalize hox:S.idx ⟨1,s,r,j,0⟩=ox at*
 have HOX:Hid (S.idx (noteK s r j)=ox):=hox
 clear hox
 cases ox with
 | none=>
   go_wp2_with fail
   go_returns
   exact ⟨_,false,rfl,⟨fun e=>(nomatch e),fun h=>by obtain ⟨i,hi,_⟩:=h;rw [HOX.out] at hi;cases hi⟩,fun e=>(nomatch e),H.out,Step.refl _ _ _⟩
 | some y=>
   have hxy:x=y:=HV.out y HOX.out
   subst hxy
   obtain ⟨i,e,rfl,h2,he,hek⟩:=HI.out.idx _ _ HOX.out
   obtain ⟨b,off,cap,hlv,hc1,hc2,hc,hfr⟩:=H.out.ents (by have:=HI.out.len;omega)
   have c0:=H.out.cList
   rw [hlv] at c0
   have c6:w.cell? ⟨b,off+i*8+6,none⟩=some (.int .i64 e.value):=hc i e 6 _ he rfl
   have hil:(i:Int)<(S.ents.length:Int):=by have:=(List.getElem?_eq_some_iff.1 he).1;omega
   have ho:=owns_any w p R S H.out HI.out.len t ht i 1
   have hiff:∀b,ownsB S t i 1=b→(b=true↔∃k:Nat,S.idx (noteK s r j)=some (k:Int)∧ownsB S t k 1=true):=fun b hb=>by
    subst hb
    constructor
    ·intro h;exact ⟨i,HOX.out,h⟩
    ·rintro ⟨k,hk,h⟩
     have:=Option.some.inj (HOX.out.symm.trans hk)
     have:i=k:=by omega
     subst this;exact h
   have HIF:=Lib.hid hiff
   obtain ⟨e0,he0⟩:∃e0,e0=e:=⟨_,rfl⟩
   have HE:Hid (S.ents[i]? =some e0):=by rw [he0];exact he
   rw [←he0] at c6
   clear he0
   generalize hob:ownsB S t i 1=ob at*
   have HOB:=Lib.hid (HIF.out ob rfl)
   have HO:=Lib.hid ho
   clear hob ho hiff hlv hc hfr hc1 h2 hek he
   generalize hL:S.ents.length=n at*
   clear hL
   go_wp2_with fail
   (with_reducible refine HO.out.mono ?_)
   rintro e wq ⟨rfl,rfl⟩
   cases ob
   ·go_wp2_with fail
    go_returns
    exact ⟨_,false,rfl,by simpa using HOB.out,fun e=>(nomatch e),H.out,Step.refl _ _ _⟩
   ·go_wp2_with fail
    go_returns
    exact ⟨_,true,rfl,by simpa using HOB.out,fun _=>⟨i,e0,HOX.out,HE.out,rfl⟩,H.out,Step.refl _ _ _⟩
end Go.Proofs.YthohnjgnpapnoaaGreatDoor
