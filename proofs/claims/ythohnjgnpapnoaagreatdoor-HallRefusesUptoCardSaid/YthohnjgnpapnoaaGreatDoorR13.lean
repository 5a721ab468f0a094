/- leap: what is noted and recalled; code; middle; what a result asks of an arena. · leap: large, where result is known one level below. · leap: large, the walk. -/
import Derived.Test.YthohnjgnpapnoaaGreatDoorR12
import Derived.Deep.CutBlock
import Derived.Deep.DeepCutAuto
set_option linter.unusedVariables false
set_option linter.unusedSimpArgs false
namespace Go.Proofs.YthohnjgnpapnoaaGreatDoor
open Go.RowKit
def codeR (b l:Int):Int:=b*512+l
theorem noteV_code {b l:Int} (h:goodR b l) {n:Nat} {T:Tree} (hT:Pf (n+2) T) (j:Int):noteV T (codeR b l) j=resT b l n T j:=by
 obtain ⟨⟨b0,b1⟩,⟨l0,l1⟩,_⟩:=h
 unfold noteV codeR
 rw [hT.lvl,show (b*512+l)/512=b by omega,show (b*512+l)%512=l by omega,show ((n+2:Nat):Int).toNat-2=n by omega]
theorem or_code (b l:Nat) (hl:l<512):b*512 ||| l=b*512+l:=by
 have:=Nat.shiftLeft_add_eq_or_of_lt (i:=9) (b:=l) (by omega) b
 rw [Nat.shiftLeft_eq] at this
 exact this.symm
theorem i64_or_code {b l:Int} (h:goodR b l):bits .or .i64 (b*512) l=codeR b l:=by
 obtain ⟨⟨b0,b1⟩,⟨l0,l1⟩,_⟩:=h
 obtain ⟨B,rfl⟩:=Int.eq_ofNat_of_zero_le b0
 obtain ⟨L,rfl⟩:=Int.eq_ofNat_of_zero_le l0
 have hB:((B:Int)*512)=((B*512:Nat):Int):=by omega
 have e:∀n:Nat,n<18446744073709551616→(BitVec.ofInt 64 (n:Int)).toNat=n:=fun n hn=>by
  rw [BitVec.ofInt_natCast,BitVec.toNat_ofNat];exact Nat.mod_eq_of_lt hn
 show IntKind.i64.wrap ((BitVec.ofInt 64 ((B:Int)*512) ||| BitVec.ofInt 64 (L:Int)).toNat:Int)=_
 rw [hB,BitVec.toNat_or,e _ (by omega),e _ (by omega),or_code _ _ (by omega),IntKind.wrap_i64]
 unfold codeR
 omega
set_option maxRecDepth 100000 in
theorem lcode_any (w:World) (b l:Int) (h:goodR b l):
 Calls Tryz.prog 213 #[.agg #[.int .i64 b,.int .i64 l]] w fun e w'=>e= .returned (.int .i64 (codeR b l))∧Below w.heap.size w w':=by
 have H:=i64_or_code h
 obtain ⟨⟨b0,b1⟩,⟨l0,l1⟩,_⟩:=h
 go_enter Tryz.func213,Tryz.ntmps213
 go_wp2_with fail
 go_ret
 exact ⟨rfl,(Below.refl _ _).alloc (Nat.le_refl _) _⟩
def Clo (b l:Int):Nat→Tree→Int→List Thing→Prop
 | 0,T,j,V=>Thing.note T (codeR b l) j∈V∧sqOf (smallT b l (gT T))∈V
 | n+1,T,j,V=>
   Thing.note T (codeR b l) j∈V∧
   (∀y x,y<3→x<3→sqOf (fourT (gT T) y x)∈V∧(j=((n+1:Nat):Int)→Clo b l n (fourT (gT T) y x) (j-1) V)∧(j≠((n+1:Nat):Int)→sqOf (midT (fourT (gT T) y x))∈V))∧
   (∀y x,y<2→x<2→sqOf (fourT (fun y x=>if j=((n+1:Nat):Int) then resT b l n (fourT (gT T) y x) (j-1) else midT (fourT (gT T) y x)) y x)∈V∧
     Clo b l n (fourT (fun y x=>if j=((n+1:Nat):Int) then resT b l n (fourT (gT T) y x) (j-1) else midT (fourT (gT T) y x)) y x) (if j=((n+1:Nat):Int) then j-1 else j) V)∧
   sqOf (resT b l (n+1) T j)∈V
theorem Clo.note {b l:Int}:∀{n:Nat} {T:Tree} {j:Int} {V:List Thing},Clo b l n T j V→Thing.note T (codeR b l) j∈V
 | 0,_,_,_,h=>h.1
 | _+1,_,_,_,h=>h.1
theorem nine_pf {b l:Int} {n:Nat} {T:Tree} (h:Pf (n+3) T) (j:Int) (y x:Nat):Pf (n+1) (nineT b l n T j y x):=by
 unfold nineT;split
 ·exact Pf.res (Pf.four h.g)
 ·exact Pf.mid (Pf.four h.g)
theorem Clo.mono {b l:Int} {V V':List Thing} (hv:∀x∈V,x∈V'):∀{n:Nat} {T:Tree} {j:Int},Clo b l n T j V→Clo b l n T j V'
 | 0,_,_,h=>⟨hv _ h.1,hv _ h.2⟩
 | _+1,_,_,h=>⟨hv _ h.1,fun y x hy hx=>⟨hv _ (h.2.1 y x hy hx).1,fun e=>Clo.mono hv ((h.2.1 y x hy hx).2.1 e),fun e=>hv _ ((h.2.1 y x hy hx).2.2 e)⟩,fun y x hy hx=>⟨hv _ (h.2.2.1 y x hy hx).1,Clo.mono hv (h.2.2.1 y x hy hx).2⟩,hv _ h.2.2.2⟩
theorem inn_code {b l:Int} (h:goodR b l) {n:Nat} {T:Tree} (hT:Pf (n+2) T) (j:Int) (V:List Thing):Inn (codeR b l/512) (codeR b l%512) (codeR b l) (T.lvl.toNat-2) T j V↔Inn b l (codeR b l) n T j V:=by
 obtain ⟨⟨b0,b1⟩,⟨l0,l1⟩,_⟩:=h
 have e1:codeR b l/512=b:=by unfold codeR;omega
 have e2:codeR b l%512=l:=by unfold codeR;omega
 rw [e1,e2,hT.lvl,show ((n+2:Nat):Int).toNat-2=n by omega]
theorem clo_of {b l:Int} (hg:goodR b l) {V:List Thing} (hc:∀x∈V,kidsIn V x):∀{n:Nat} {T:Tree} {j:Int},Pf (n+2) T→Thing.note T (codeR b l) j∈V→Clo b l n T j V
 | 0,T,j,hT,h=>⟨h,by
   have:=(inn_code hg hT j V).1 (hc _ h).2.2
   exact this⟩
 | n+1,T,j,hT,h=>by
   have hi:=(inn_code hg hT j V).1 (hc _ h).2.2
   refine ⟨h,fun y x hy hx=>⟨(hi.1 y x hy hx).1,fun e=>clo_of hg hc (Pf.four hT.g) ((hi.1 y x hy hx).2.1 e),(hi.1 y x hy hx).2.2⟩,fun y x hy hx=>⟨(hi.2.1 y x hy hx).1,?_⟩,hi.2.2⟩
   exact clo_of hg hc (Pf.four (nine_pf hT j)) (hi.2.1 y x hy hx).2
def LpPostK (w:World) (hb p:Nat) (R:ArR) (S:ArS) (A:Nat→Abs) (t:Nat) (b l bad:Int) (T:Tree) (C K:List Thing→Prop) (e:Ending) (w':World):Prop:=
 ∃(r:Int) (S':ArS) (A':Nat→Abs) (R':ArR) (bad':Int),e= .returned (.int .i64 r)∧Grew t C S A bad S' A' bad'∧(bad'=0→Has S' A' t r T)∧Lp w' hb p R' S' A' t b l bad'∧StepH (fun b=>b=hb) p R R' w w'∧(bad'=0→K (A' t).have_)
theorem Has.sq {S:ArS} {A:Nat→Abs} {t:Nat} {id:Int} {a b c d:Tree} (h:Has S A t id (.node a b c d)):sqOf (.node a b c d)∈(A t).have_:=of_decide_eq_true h.2
section
variable {S S' : ArS} {A : Nat → Abs} {t : Nat} {b l : Int} {n : Nat} {T : Tree} {id : Int} {j : Int}
theorem Rel.recalled (h:Rel S A) (ht:t<64) (hg:goodR b l) (hT:Pf (n+2) T) (hh:Has S A t id T) {i:Nat} {e:EntD} (hi:S.idx (noteK id (codeR b l) j)=some (i:Int)) (he:S.ents[i]? =some e) (ho:ownsB S t i 1=true):
 Has S A t e.value (resT b l n T j)∧Thing.note T (codeR b l) j∈(A t).have_:=by
 have hek:=h.inv.idx_of he hi
 have hix:S.idx e.key=some (i:Int):=by rw [hek];exact hi
 obtain ⟨i',e',q1,q2,q3⟩:=owns_range h.inv.len ho
 have:i=i':=by omega
 subst this
 rw [he] at q3;cases q3
 have hb:e.mask.testBit t=true:=by
  have h2:=h.inv.two hi
  have e1:entAt S (i:Int)=some e:=by unfold entAt;rw [if_pos (by omega),Int.toNat_natCast];exact he
  unfold ownsB at ho
  rw [e1] at ho
  simp only [Bool.or_eq_true,Bool.and_eq_true,beq_iff_eq] at ho
  rcases ho with ho | ho
  ·omega
  ·exact ho.2
 obtain ⟨x,hx⟩:=h.good i e he hix
 cases x with
 | sq a b c d=>
   exfalso
   obtain ⟨e2,p1,_,p3,_⟩:=hx.sqE
   rw [he] at p1;cases p1
   rw [hek] at p3;cases p3
 | note x r j'=>
   have hx2:=hx
   obtain ⟨e2,p1,p2,p3,p4,p5,p6,p7,p8⟩:=hx
   rw [he] at p1;cases p1
   rw [hek] at p4 p5 p7
   have e3:x=T:=Den.fn h.inv p7 hh.1
   subst e3
   have p4:codeR b l=r:=p4
   have p5:j=j':=p5
   subst p4 p5
   rw [noteV_code hg hT] at p8
   have hm:=(h.own t ht _).2 ⟨i,e,he,hb,hx2⟩
   have hk:=((h.ok t ht).closed _ hm).2.1
   rw [noteV_code hg hT] at hk
   exact ⟨⟨p8,hk⟩,hm⟩
theorem Rel.noteG (h:Rel S A) (ht:t<64) (hg:goodR b l) (hT:Pf (n+2) T) (hh:Has S A t id T) {v x:Int} (hv:Has S A t v (resT b l n T j)) (hin:Inn b l (codeR b l) n T j (A t).have_) (hj:i64r j) (hn:NoteR S t id (codeR b l) j v x S'):
 ∃A',Grew t (fun V=>Thing.note T (codeR b l) j∈V) S A 0 S' A' x∧(x=0→Thing.note T (codeR b l) j∈(A' t).have_):=by
 have o0:ownsB S t id 0=true:=by rw [h.owns ht hh.1];exact hh.2
 have o1:ownsB S t v 0=true:=by rw [h.owns ht hv.1];exact hv.2
 cases hn with
 | none ho=>
   rcases ho with ho | ho
   ·rw [o0] at ho;cases ho
   ·rw [o1] at ho;cases ho
 | twice i e _ _ hi he hne=>
   exfalso
   have hek:=h.inv.idx_of he hi
   have hix:S.idx e.key=some (i:Int):=by rw [hek];exact hi
   obtain ⟨y,hy⟩:=h.good i e he hix
   cases y with
   | sq a b c d=>
     obtain ⟨e2,p1,_,p3,_⟩:=hy.sqE
     rw [he] at p1;cases p1
     rw [hek] at p3;cases p3
   | note y r j'=>
     obtain ⟨e2,p1,p2,p3,p4,p5,p6,p7,p8⟩:=hy
     rw [he] at p1;cases p1
     rw [hek] at p4 p5 p7
     have e3:y=T:=Den.fn h.inv p7 hh.1
     subst e3
     have p4:codeR b l=r:=p4
     have p5:j=j':=p5
     subst p4 p5
     rw [noteV_code hg hT] at p8
     exact hne (Den.inj p8 hv.1)
 | gives r x S' _ _ hval hgr=>
   have hg2:=hg
   obtain ⟨⟨b0,b1⟩,⟨l0,l1⟩,_⟩:=hg2
   have hok:(noteK id (codeR b l) j).ok:=noteK_ok (own_i64 h.inv o0) ⟨by unfold codeR;omega,by unfold codeR;omega⟩ hj
   obtain ⟨A',g1,_⟩:=h.giveG ht (x:= .note T (codeR b l) j) (lv:=0) (va:=v) hok ⟨Int.le_refl _,by decide⟩ ⟨rfl,rfl,rfl,rfl,hh.1⟩ (by show Den S v (noteV T (codeR b l) j);rw [noteV_code hg hT];exact hv.1) ⟨hh.2,by rw [noteV_code hg hT];exact hv.2,(inn_code hg hT j _).2 hin⟩ hgr
   exact ⟨A',g1.grew.mono fun V hV y hy=>by rw [List.mem_singleton.1 hy];exact hV,fun e=>((g1.ok e).2.1 _).2 (.inr (List.mem_singleton.2 rfl))⟩
end
set_option maxRecDepth 100000 in
theorem lmid_any (w:World) (hb p:Nat) (R:ArR) (S:ArS) (A:Nat→Abs) (t:Nat) (b l bad:Int) (h:Lp w hb p R S A t b l bad)
 (G:Nat→Int) (g:Nat→Nat→Tree) (n:Nat) (hn:n<44) (hG:bad=0→∀y x,y<4→x<4→Has S A t (G (y*4+x)) (g y x)) (hl:∀y x,Pf n (g y x)):
 Calls Tryz.prog 227 #[.pointer (some ⟨hb,0,none⟩),.agg (gC G)] w (LpPost w hb p R S A t b l bad (fourT g 1 1) (fun V=>sqOf (fourT g 1 1)∈V)):=by
 have H:=Lib.hid (h.alloc (.cells (gC G) 302))
 have HC:=Lib.hid (Lc.new h 302 (gC G))
 have HS:Hid (StepN hb p R R w (w.alloc (.cells (gC G) 302))):=(StepN.refl hb p R w).alloc _
 have HJ:=Lib.hid (fun w2 (h2:Lp w2 hb p R S A t b l bad)=>ljoin_any w2 hb p R S A t b l bad h2 (G 5) (G 6) (G 9) (G 10) (g 1 1) (g 1 2) (g 2 1) (g 2 2) n (fun e=>⟨hG e 1 1 (by decide) (by decide),hG e 1 2 (by decide) (by decide),hG e 2 1 (by decide) (by decide),hG e 2 2 (by decide) (by decide)⟩) ⟨(hl 1 1).lvl,(hl 1 2).lvl,(hl 2 1).lvl,(hl 2 2).lvl⟩ (by omega))
 clear h hG hl
 have c5:=HC.out.cell (gC_get G (i:=5) (by decide))
 have c6:=HC.out.cell (gC_get G (i:=6) (by decide))
 have c9:=HC.out.cell (gC_get G (i:=9) (by decide))
 have c10:=HC.out.cell (gC_get G (i:=10) (by decide))
 unfold gC at H HC HS c5 c6 c9 c10 ⊢
 go_enter Tryz.func227,Tryz.ntmps227
 go_wp2_with fail
 clear c5 c6 c9 c10 HC
 generalize World.alloc w _=w2 at H HS ⊢
 (with_reducible refine (HJ.out _ H.out).mono ?_)
 intro e w5 hq
 unfold LpPost at hq
 obtain ⟨r,S',A',R',bad',rfl,hgw,hh,hp,hs⟩:=hq
 have HGW:=Lib.hid hgw
 have HHS:=Lib.hid hh
 have HPP:=Lib.hid hp
 have HSS:=Lib.hid (HS.out.step hs).fin
 clear hgw hh hp hs HJ
 go_wp2_with fail
 go_returns
 exact ⟨r,S',A',R',bad',rfl,HGW.out,HHS.out,HPP.out,HSS.out⟩
end Go.Proofs.YthohnjgnpapnoaaGreatDoor
namespace Go.Proofs.YthohnjgnpapnoaaGreatDoor
open Go.RowKit
def ResOk (b l:Int) (n:Nat):Prop:=∀(w:World) (hb p:Nat) (R:ArR) (S:ArS) (A:Nat→Abs) (t:Nat) (bad:Int),Lp w hb p R S A t b l bad→∀(id:Int) (T:Tree) (j:Int),Pf (n+2) T→(bad=0→Has S A t id T)→0≤j→j≤n→
 Calls Tryz.prog 193 #[.pointer (some ⟨hb,0,none⟩),.int .i64 id,.int .i64 ((n:Int)+2),.int .i64 j] w (LpPostK w hb p R S A t b l bad (resT b l n T j) (Clo b l n T j) (fun V=>Thing.note T (codeR b l) j∈V))
def nC (N:Nat→Int):Array Value:=#[.int .i64 (N 0),.int .i64 (N 1),.int .i64 (N 2),.int .i64 (N 3),.int .i64 (N 4),.int .i64 (N 5),.int .i64 (N 6),.int .i64 (N 7),.int .i64 (N 8)]
theorem nC_get (G:Nat→Int) {i:Nat} (h:i<9):(nC G)[i]? =some (.int .i64 (G i)):=by
 have:i=0∨i=1∨i=2∨i=3∨i=4∨i=5∨i=6∨i=7∨i=8:=by omega
 rcases this with rfl | rfl | rfl | rfl | rfl | rfl | rfl | rfl | rfl<;>rfl
theorem nC_set (G:Nat→Int) {i:Nat} (h:i<9) (x:Int):(nC G).setIfInBounds i (.int .i64 x)=nC (upd G i x):=by
 have:i=0∨i=1∨i=2∨i=3∨i=4∨i=5∨i=6∨i=7∨i=8:=by omega
 rcases this with rfl | rfl | rfl | rfl | rfl | rfl | rfl | rfl | rfl<;>rfl
def HasD (S:ArS) (A:Nat→Abs) (t:Nat) (id:Int) (T:Tree) (D:List Thing):Prop:=Has S A t id T∧∀z∈D,z∈(A t).have_
theorem HasD.st {S S':ArS} {A A':Nat→Abs} {t:Nat} {id:Int} {T:Tree} {D:List Thing} (h:HasD S A t id T D) (ht:t<64) (hs:St t S A S' A'):HasD S' A' t id T D:=⟨h.1.st ht hs,fun z hz=>hs.mono z (h.2 z hz)⟩
theorem Has.d {S:ArS} {A:Nat→Abs} {t:Nat} {id:Int} {T:Tree} (h:Has S A t id T):HasD S A t id T []:=⟨h,fun z hz=>by cases hz⟩
theorem resT_succ (b l:Int) (n:Nat) (T:Tree) (j:Int):resT b l (n+1) T j=fourT (fun y x=>resT b l n (fourT (nineT b l n T j) y x) (if j=((n+1:Nat):Int) then j-1 else j)) 0 0:=rfl
structure LargeI (w:World) (hb p:Nat) (R:ArR) (S:ArS) (A:Nat→Abs) (t:Nat) (b l bad:Int) (C:List Thing→Prop) (G:Nat→Int) (U:Nat→Tree) (D:Nat→List Thing) (N:Nat→Int) (m:Nat) (R':ArR) (S':ArS) (A':Nat→Abs) (bad':Int) (wx:World):Prop where
 lp:Lp wx hb p R' S' A' t b l bad'
 gg:Lc wx p R' hb w.heap.size 302 (gC G)
 nn:Lc wx p R' hb (w.heap.size+1) 314 (nC N)
 st:StepN hb p R R' w wx
 gr:Grew t C S A bad S' A' bad'
 told:bad'=0→∀i,i<m→HasD S' A' t (N i) (U i) (D i)
section
variable {w wx w1 : World} {hb p : Nat} {R R' R2 : ArR} {S S' S2 : ArS} {A A' A2 : Nat → Abs} {t : Nat} {b l bad bad' bad2 : Int} {C : List Thing → Prop} {G : Nat → Int} {U : Nat → Tree} {D : Nat → List Thing} {N : Nat → Int} {m : Nat}
theorem LargeI.step (h:LargeI w hb p R S A t b l bad C G U D N m R' S' A' bad' wx) (hp:Lp w1 hb p R2 S2 A2 t b l bad2) (hs:StepH (fun b=>b=hb) p R' R2 wx w1) (hg:Grew t C S' A' bad' S2 A2 bad2):LargeI w hb p R S A t b l bad C G U D N m R2 S2 A2 bad2 w1:=
 ⟨hp,h.gg.step hs,h.nn.step hs,h.st.step hs,h.gr.trans hg,fun e i hi=>(h.told (hg.ok e) i hi).st h.lp.ht hg.st⟩
theorem LargeI.drew (h:LargeI w hb p R S A t b l bad C G U D N m R' S' A' bad' wx):LargeI w hb p R S A t b l bad C G U D N m R' S' A' bad' wx.drew:=
 ⟨h.lp.drew,h.gg.drew,h.nn.drew,h.st.drew,h.gr,h.told⟩
theorem LargeI.put (h:LargeI w hb p R S A t b l bad C G U D N m R' S' A' bad' wx) (hm:m<9) {r:Int} (hr:bad'=0→HasD S' A' t r (U m) (D m)):LargeI w hb p R S A t b l bad C G U D (upd N m r) (m+1) R' S' A' bad' (wx.setCell ⟨w.heap.size+1,m,none⟩ (.int .i64 r)):=by
 refine ⟨h.lp.lset h.nn _ _,h.gg.far (by omega) _ _,?_,h.st.lset (by omega) _ _,h.gr,fun e i hi=>?_⟩
 ·rw [←nC_set N hm];exact h.nn.set _ _
 ·by_cases q:i=m
  ·subst q;rw [upd_same];exact hr e
  ·rw [upd_ne _ _ q];exact h.told e i (by omega)
theorem LargeI.has (h:LargeI w hb p R S A t b l bad C G U D N m R' S' A' bad' wx) {T:Tree} (hG:bad=0→∀y x,y<4→x<4→Has S A t (G (y*4+x)) (gT T y x)) (e:bad'=0) (y x:Nat) (hy:y<4) (hx:x<4):Has S' A' t (G (y*4+x)) (gT T y x):=
 (hG (h.gr.ok e) y x hy hx).st h.lp.ht h.gr.st
end
section
variable {w wx : World} {hb p : Nat} {R R' : ArR} {S S' : ArS} {A A' : Nat → Abs} {t : Nat} {b l bad bad' : Int} {C : List Thing → Prop} {G : Nat → Int} {U : Nat → Tree} {D : Nat → List Thing} {N : Nat → Int} {m : Nat}
def LargeP (w:World) (hb p:Nat) (R:ArR) (S:ArS) (A:Nat→Abs) (t:Nat) (b l bad:Int) (C:List Thing→Prop) (G:Nat→Int) (U:Nat→Tree) (D:Nat→List Thing) (N:Nat→Int) (m:Nat) (R':ArR) (S':ArS) (A':Nat→Abs) (bad':Int) (wx:World) (F:Tree) (DF:List Thing) (e:Ending) (w2:World):Prop:=
 ∃(r:Int) (R2:ArR) (S2:ArS) (A2:Nat→Abs) (bad2:Int),e= .returned (.int .i64 r)∧(bad2=0→HasD S2 A2 t r F DF)∧LargeI w hb p R S A t b l bad C G U D N m R2 S2 A2 bad2 w2∧StepH (fun b=>b=hb) p R' R2 wx w2∧Grew t C S' A' bad' S2 A2 bad2
theorem LargeI.post (h:LargeI w hb p R S A t b l bad C G U D N m R' S' A' bad' wx) {F:Tree} {C':List Thing→Prop} (hC:∀V,C V→C' V) {e:Ending} {w2:World} (hp:LpPost wx hb p R' S' A' t b l bad' F C' e w2):LargeP w hb p R S A t b l bad C G U D N m R' S' A' bad' wx F [] e w2:=by
 obtain ⟨r,S2,A2,R2,bad2,rfl,hg,hh,hl,hs⟩:=hp
 exact ⟨r,R2,S2,A2,bad2,rfl,fun e=>(hh e).d,h.step hl hs (hg.mono hC),hs,hg.mono hC⟩
theorem LargeI.joinC (h:LargeI w hb p R S A t b l bad C G U D N m R' S' A' bad' wx) {F:Nat→Nat→Tree} {y x n:Nat} {q0 q1 q2 q3:Int} (hn:n<44) (hF:∀y x,Pf n (F y x)) (hq:bad'=0→Has S' A' t q0 (F y x)∧Has S' A' t q1 (F y (x+1))∧Has S' A' t q2 (F (y+1) x)∧Has S' A' t q3 (F (y+1) (x+1))) (hC:∀V,C V→sqOf (fourT F y x)∈V):
 Calls Tryz.prog 226 #[.pointer (some ⟨hb,0,none⟩),.int .i64 q0,.int .i64 q1,.int .i64 q2,.int .i64 q3] wx (LargeP w hb p R S A t b l bad C G U D N m R' S' A' bad' wx (fourT F y x) []):=
 (ljoin_any wx hb p R' S' A' t b l bad' h.lp q0 q1 q2 q3 (F y x) (F y (x+1)) (F (y+1) x) (F (y+1) (x+1)) n hq ⟨(hF _ _).lvl,(hF _ _).lvl,(hF _ _).lvl,(hF _ _).lvl⟩ (by omega)).mono fun _ _ hp=>h.post hC hp
theorem LargeI.resC (h:LargeI w hb p R S A t b l bad C G U D N m R' S' A' bad' wx) {n:Nat} (hres:ResOk b l n) {F:Tree} {r:Int} {j:Int} (hF:Pf (n+2) F) (hq:bad'=0→HasD S' A' t r F []) (hj0:0≤j) (hj:j≤n) (hC:∀V,C V→Clo b l n F j V):
 Calls Tryz.prog 193 #[.pointer (some ⟨hb,0,none⟩),.int .i64 r,.int .i64 ((n:Int)+2),.int .i64 j] wx (LargeP w hb p R S A t b l bad C G U D N m R' S' A' bad' wx (resT b l n F j) [sqOf F,.note F (codeR b l) j]):=
 (hres wx hb p R' S' A' t bad' h.lp r F j hF (fun e=>(hq e).1) hj0 hj).mono fun _ _ hp=>by
   obtain ⟨r2,S2,A2,R2,bad2,rfl,hg,hh,hl,hs,hk⟩:=hp
   refine ⟨r2,R2,S2,A2,bad2,rfl,fun e=>⟨hh e,fun z hz=>?_⟩,h.step hl hs (hg.mono hC),hs,hg.mono hC⟩
   rcases List.mem_cons.1 hz with rfl | hz
   ·have hq2:=hg.st.hasT (hq (hg.ok e)).1.2
    rw [hF.eta] at hq2 ⊢
    exact of_decide_eq_true hq2
   ·rw [List.mem_singleton.1 hz];exact hk e
def GridP (w:World) (hb p:Nat) (R:ArR) (S:ArS) (A:Nat→Abs) (t:Nat) (b l bad:Int) (C:List Thing→Prop) (G:Nat→Int) (U:Nat→Tree) (D:Nat→List Thing) (N:Nat→Int) (m:Nat) (R':ArR) (S':ArS) (A':Nat→Abs) (bad':Int) (F:Tree) (e:Ending) (w2:World):Prop:=
 ∃g:Nat→Int,e= .returned (.agg (gC g))∧(bad'=0→∀y x,y<4→x<4→Has S' A' t (g (y*4+x)) (gT F y x))∧LargeI w hb p R S A t b l bad C G U D N m R' S' A' bad' w2
theorem LargeI.gridC (h:LargeI w hb p R S A t b l bad C G U D N m R' S' A' bad' wx) {n:Nat} {F:Tree} {r:Int} (hF:Pf (n+2) F) (hq:bad'=0→HasD S' A' t r F []):
 Calls Tryz.prog 214 #[.pointer (some ⟨hb,0,none⟩),.int .i64 r] wx (GridP w hb p R S A t b l bad C G U D N m R' S' A' bad' F):=
 (lgrid_any wx hb p R' S' A' t b l bad' h.lp r F n hF (fun e=>(hq e).1)).mono fun _ _ hp=>by
   obtain ⟨g,rfl,hg,hl,hs⟩:=hp
   exact ⟨g,rfl,hg,h.step hl hs (Grew.refl h.lp.rel t C bad')⟩
theorem LargeI.midC (h:LargeI w hb p R S A t b l bad C G U D N m R' S' A' bad' wx) {n:Nat} {F:Tree} {g:Nat→Int} {r0:Int} (hn:n<44) (hF:Pf (n+2) F) (hr0:bad'=0→HasD S' A' t r0 F []) (hq:bad'=0→∀y x,y<4→x<4→Has S' A' t (g (y*4+x)) (gT F y x)) (hC:∀V,C V→sqOf (midT F)∈V):
 Calls Tryz.prog 227 #[.pointer (some ⟨hb,0,none⟩),.agg (gC g)] wx (LargeP w hb p R S A t b l bad C G U D N m R' S' A' bad' wx (midT F) [sqOf F,sqOf (midT F)]):=
 (lmid_any wx hb p R' S' A' t b l bad' h.lp g (gT F) n hn hq hF.g).mono fun _ _ hp=>by
   obtain ⟨r2,S2,A2,R2,bad2,rfl,hg,hh,hl,hs⟩:=hp
   refine ⟨r2,R2,S2,A2,bad2,rfl,fun e=>⟨hh e,fun z hz=>?_⟩,h.step hl hs (hg.mono hC),hs,hg.mono hC⟩
   rcases List.mem_cons.1 hz with rfl | hz
   ·have hq2:=hg.st.hasT (hr0 (hg.ok e)).1.2
    rw [hF.eta] at hq2 ⊢
    exact of_decide_eq_true hq2
   ·rw [List.mem_singleton.1 hz];exact of_decide_eq_true (hh e).2
end
theorem U_at (b l:Int) (n:Nat) (T:Tree) (j:Int) (y:Nat) {x:Nat} (hx:x<3):(fun i=>nineT b l n T j (i/3) (i%3)) (3*y+x)=nineT b l n T j y x:=by
 dsimp only
 rw [show (3*y+x)/3=y by omega,show (3*y+x)%3=x by omega]
structure LargeQ (w:World) (hb p:Nat) (R:ArR) (S:ArS) (A:Nat→Abs) (t:Nat) (b l bad:Int) (C:List Thing→Prop) (G:Nat→Int) (U:Nat→Tree) (D:Nat→List Thing) (V:Nat→Tree) (E:Nat→List Thing) (N:Nat→Int) (qb:Nat) (Q:Nat→Int) (k:Nat) (R':ArR) (S':ArS) (A':Nat→Abs) (bad':Int) (wx:World):Prop where
 lg:LargeI w hb p R S A t b l bad C G U D N 9 R' S' A' bad' wx
 q:Lc wx p R' hb qb 22 (QC Q)
 lo:w.heap.size+2≤qb
 done:bad'=0→∀i,i<k→HasD S' A' t (Q i) (V i) (E i)
section
variable {w wx w1 : World} {hb p : Nat} {R R' R2 : ArR} {S S' S2 : ArS} {A A' A2 : Nat → Abs} {t : Nat} {b l bad bad' bad2 : Int} {C : List Thing → Prop} {G : Nat → Int} {U V : Nat → Tree} {D E : Nat → List Thing} {N : Nat → Int} {m qb k : Nat} {Q : Nat → Int}
theorem LargeI.alloc (h:LargeI w hb p R S A t b l bad C G U D N m R' S' A' bad' wx) (o:Obj):LargeI w hb p R S A t b l bad C G U D N m R' S' A' bad' (wx.alloc o):=
 ⟨h.lp.alloc o,h.gg.alloc o,h.nn.alloc o,h.st.alloc o,h.gr,h.told⟩
theorem LargeI.lo (h:LargeI w hb p R S A t b l bad C G U D N m R' S' A' bad' wx):w.heap.size+2≤wx.heap.size:=by have:=h.nn.blk.lt;omega
theorem LargeQ.drew (h:LargeQ w hb p R S A t b l bad C G U D V E N qb Q k R' S' A' bad' wx):LargeQ w hb p R S A t b l bad C G U D V E N qb Q k R' S' A' bad' wx.drew:=⟨h.lg.drew,h.q.drew,h.lo,h.done⟩
theorem LargeQ.step (h:LargeQ w hb p R S A t b l bad C G U D V E N qb Q k R' S' A' bad' wx) (hl:LargeI w hb p R S A t b l bad C G U D N 9 R2 S2 A2 bad2 w1) (hs:StepH (fun b=>b=hb) p R' R2 wx w1) (hg:Grew t C S' A' bad' S2 A2 bad2):LargeQ w hb p R S A t b l bad C G U D V E N qb Q k R2 S2 A2 bad2 w1:=
 ⟨hl,h.q.step hs,h.lo,fun e i hi=>(h.done (hg.ok e) i hi).st h.lg.lp.ht hg.st⟩
theorem LargeQ.put (h:LargeQ w hb p R S A t b l bad C G U D V E N qb Q k R' S' A' bad' wx) (hk:k<4) {r:Int} (hr:bad'=0→HasD S' A' t r (V k) (E k)):LargeQ w hb p R S A t b l bad C G U D V E N qb (upd Q k r) (k+1) R' S' A' bad' (wx.setCell ⟨qb,k,none⟩ (.int .i64 r)):=by
 have hlo:=h.lo
 refine ⟨⟨h.lg.lp.lset h.q _ _,h.lg.gg.far (by omega) _ _,h.lg.nn.far (by omega) _ _,h.lg.st.lset (by omega) _ _,h.lg.gr,h.lg.told⟩,?_,h.lo,fun e i hi=>?_⟩
 ·rw [←QC_set Q hk];exact h.q.set _ _
 ·by_cases q:i=k
  ·subst q;rw [upd_same];exact hr e
  ·rw [upd_ne _ _ q];exact h.done e i (by omega)
end
structure Serves (w:World) (hb p:Nat) (R:ArR) (S:ArS) (A:Nat→Abs) (t:Nat) (b l bad:Int) (C:List Thing→Prop) (G:Nat→Int) (U:Nat→Tree) (D:Nat→List Thing) (F F2:Nat→Nat→Tree) (V:Nat→Tree) (E:Nat→List Thing) (T:Tree) (lv j:Int) (fl:Bool):Prop where
 join:∀N m R' S' A' bad' W,LargeI w hb p R S A t b l bad C G U D N m R' S' A' bad' W→∀y x,y<3→x<3→
  Calls Tryz.prog 226 #[.pointer (some ⟨hb,0,none⟩),.int .i64 (G (y*4+x)),.int .i64 (G (y*4+(x+1))),.int .i64 (G ((y+1)*4+x)),.int .i64 (G ((y+1)*4+(x+1)))] W (LargeP w hb p R S A t b l bad C G U D N m R' S' A' bad' W (F y x) [])
 res:fl=true→∀N m R' S' A' bad' W,LargeI w hb p R S A t b l bad C G U D N m R' S' A' bad' W→∀y x,y<3→x<3→∀r,(bad'=0→HasD S' A' t r (F y x) [])→
  Calls Tryz.prog 193 #[.pointer (some ⟨hb,0,none⟩),.int .i64 r,.int .i64 lv,.int .i64 (j-1)] W (LargeP w hb p R S A t b l bad C G U D N m R' S' A' bad' W (U (3*y+x)) (D (3*y+x)))
 grid:fl=false→∀N m R' S' A' bad' W,LargeI w hb p R S A t b l bad C G U D N m R' S' A' bad' W→∀y x,y<3→x<3→∀r,(bad'=0→HasD S' A' t r (F y x) [])→
  Calls Tryz.prog 214 #[.pointer (some ⟨hb,0,none⟩),.int .i64 r] W (GridP w hb p R S A t b l bad C G U D N m R' S' A' bad' (F y x))
 mid:fl=false→∀N m R' S' A' bad' W,LargeI w hb p R S A t b l bad C G U D N m R' S' A' bad' W→∀y x,y<3→x<3→∀r0,(bad'=0→HasD S' A' t r0 (F y x) [])→∀g:Nat→Int,(bad'=0→∀r c,r<4→c<4→Has S' A' t (g (r*4+c)) (gT (F y x) r c))→
  Calls Tryz.prog 227 #[.pointer (some ⟨hb,0,none⟩),.agg (gC g)] W (LargeP w hb p R S A t b l bad C G U D N m R' S' A' bad' W (U (3*y+x)) (D (3*y+x)))
 join2:∀N R' S' A' bad' W,LargeI w hb p R S A t b l bad C G U D N 9 R' S' A' bad' W→∀y x,y<2→x<2→
  Calls Tryz.prog 226 #[.pointer (some ⟨hb,0,none⟩),.int .i64 (N (y*3+x)),.int .i64 (N (y*3+(x+1))),.int .i64 (N ((y+1)*3+x)),.int .i64 (N ((y+1)*3+(x+1)))] W (LargeP w hb p R S A t b l bad C G U D N 9 R' S' A' bad' W (F2 y x) [])
 res2:∀N R' S' A' bad' W,LargeI w hb p R S A t b l bad C G U D N 9 R' S' A' bad' W→∀y x,y<2→x<2→∀r,(bad'=0→HasD S' A' t r (F2 y x) [])→
  Calls Tryz.prog 193 #[.pointer (some ⟨hb,0,none⟩),.int .i64 r,.int .i64 lv,.int .i64 (if fl then j-1 else j)] W (LargeP w hb p R S A t b l bad C G U D N 9 R' S' A' bad' W (V (2*y+x)) (E (2*y+x)))
 join3:∀N R' S' A' bad' W,LargeI w hb p R S A t b l bad C G U D N 9 R' S' A' bad' W→∀Q:Nat→Int,(bad'=0→∀k,k<4→HasD S' A' t (Q k) (V k) (E k))→
  Calls Tryz.prog 226 #[.pointer (some ⟨hb,0,none⟩),.int .i64 (Q 0),.int .i64 (Q 1),.int .i64 (Q 2),.int .i64 (Q 3)] W (LargeP w hb p R S A t b l bad C G U D N 9 R' S' A' bad' W T [])
theorem wrap_succ (y:Nat) (h:y<1000):IntKind.i64.wrap ((y:Int)+1)=((y+1:Nat):Int):=by rw [IntKind.wrap_i64];omega
end Go.Proofs.YthohnjgnpapnoaaGreatDoor
namespace Go.Proofs.YthohnjgnpapnoaaGreatDoor
open Go.RowKit
set_option maxRecDepth 100000 in
set_option maxHeartbeats 25600000 in
theorem llarge_walk (w:World) (hb p:Nat) (R:ArR) (S:ArS) (A:Nat→Abs) (t:Nat) (b l bad:Int) (h:Lp w hb p R S A t b l bad) (C K:List Thing→Prop) (G:Nat→Int) (U:Nat→Tree) (D:Nat→List Thing) (F F2:Nat→Nat→Tree) (V:Nat→Tree) (E:Nat→List Thing) (T:Tree) (n:Nat) (hn:n+3≤44) (j:Int) (hj0:0≤j) (hj1:j≤100) (fl:Bool) (hfl:(j==(n:Int)+3-2)=fl)
 (hs:Serves w hb p R S A t b l bad C G U D F F2 V E T ((n:Int)+2) j fl) (hK:∀W:List Thing,(∀i,i<9→∀z∈D i,z∈W)→(∀k,k<4→∀z∈E k,z∈W)→hasT W T=true→K W):
 Calls Tryz.prog 216 #[.pointer (some ⟨hb,0,none⟩),.agg (gC G),.int .i64 ((n:Int)+3),.int .i64 j] w (LpPostK w hb p R S A t b l bad T C K):=by
 have H0:Hid (LargeI w hb p R S A t b l bad C G U D (fun _=>0) 0 R S A bad ((w.alloc (.cells (gC G) 302)).alloc (.cells (nC fun _=>0) 314))):=by
  have h1:=h.alloc (.cells (gC G) 302)
  have hq:=Lc.new h1 314 (nC fun _=>0)
  rw [World.size_alloc] at hq
  exact ⟨h1.alloc _,(Lc.new h _ _).alloc _,hq,((StepN.refl hb p R w).alloc _).alloc _,Grew.refl h.rel t _ bad,fun _ i hi=>absurd hi (Nat.not_lt_zero _)⟩
 have HS:=Lib.hid hs
 have HKK:=Lib.hid hK
 have hn0:(n:Int)≤41:=by omega
 have hn1:0≤(n:Int):=by omega
 have hl1:(n:Int)+3-1=(n:Int)+2:=by omega
 have hwl:IntKind.i64.wrap ((n:Int)+2)=(n:Int)+2:=by rw [IntKind.wrap_i64];omega
 have hwj:IntKind.i64.wrap (j-1)=j-1:=by rw [IntKind.wrap_i64];omega
 clear h hs hn hK
 unfold gC nC at H0
 unfold gC
 go_enter Tryz.func216,Tryz.ntmps216
 go_wp2_with fail
 generalize World.alloc (World.alloc w _) _=w2 at H0 ⊢
 go_loopw [23] (fun yv wx=>∃(y:Nat) (N:Nat→Int) (R':ArR) (S':ArS) (A':Nat→Abs) (bad':Int),yv= .int .i64 y∧y≤3∧LargeI w hb p R S A t b l bad C G U D N (3*y) R' S' A' bad' wx) (fun yv _=>3-(intOf yv).toNat)
 case atStart=>exact ⟨0,_,R,S,A,bad,rfl,Nat.zero_le _,H0.out⟩
 case round=>
  clear H0
  obtain ⟨y,N,R',S',A',bad',rfl,hy,hI⟩:=hrel
  have HI:=Lib.hid hI
  clear hI
  by_cases hy3:y<3
  ·have HY3:=Lib.hid hy3
   have hyi:(y:Int)<3:=by omega
   have hwy:=wrap_succ y (by omega)
   clear hy hy3
   go_wp2_with fail
   go_loopw [26] (fun xv wx=>∃(x:Nat) (N:Nat→Int) (R':ArR) (S':ArS) (A':Nat→Abs) (bad':Int),xv= .int .i64 x∧x≤3∧LargeI w hb p R S A t b l bad C G U D N (3*y+x) R' S' A' bad' wx) (fun xv _=>3-(intOf xv).toNat)
   case atStart=>exact ⟨0,N,R',S',A',bad',rfl,Nat.zero_le _,HI.out⟩
   case round=>
    clear HI
    obtain ⟨x,N,R',S',A',bad',rfl,hx,hI⟩:=hrel
    have HI:=Lib.hid hI
    clear hI
    by_cases hx3:x<3
    ·have HX3:=Lib.hid hx3
     have hxi:(x:Int)<3:=by omega
     have hxi4:(x:Int)<4:=by omega
     have hyi4:(y:Int)<4:=by omega
     have hxs:((x+1:Nat):Int)<4:=by omega
     have hys:((y+1:Nat):Int)<4:=by omega
     have hwx:=wrap_succ x (by omega)
     have hxs1:(x:Int)+1<4:=by omega
     have hys1:(y:Int)+1<4:=by omega
     have hxs0:(0:Int)≤(x:Int)+1:=by omega
     have hys0:(0:Int)≤(y:Int)+1:=by omega
     have HJN:=Lib.hid (fun W hW=>HS.out.join N (3*y+x) R' S' A' bad' W hW y x HY3.out hx3)
     have c0:=HI.out.gg.cell (gC_get G (i:=y*4+x) (by have:=HY3.out;omega))
     have c1:=HI.out.gg.cell (gC_get G (i:=y*4+(x+1)) (by have:=HY3.out;omega))
     have c2:=HI.out.gg.cell (gC_get G (i:=(y+1)*4+x) (by have:=HY3.out;omega))
     have c3:=HI.out.gg.cell (gC_get G (i:=(y+1)*4+(x+1)) (by have:=HY3.out;omega))
     clear hx hx3
     go_wp2_with fail
     go_cut [13] (fun sv wx=>∃(r:Int) (R2:ArR) (S2:ArS) (A2:Nat→Abs) (bad2:Int),sv= .int .i64 r∧(bad2=0→HasD S2 A2 t r (F y x) [])∧LargeI w hb p R S A t b l bad C G U D N (3*y+x) R2 S2 A2 bad2 wx)
     case first=>
      go_region_held3 (fun w'=>w'.cell? ⟨w.heap.size,y*4+x,none⟩=some (.int .i64 (G (y*4+x)))∧w'.cell? ⟨w.heap.size,y*4+(x+1),none⟩=some (.int .i64 (G (y*4+(x+1))))∧w'.cell? ⟨w.heap.size,(y+1)*4+x,none⟩=some (.int .i64 (G ((y+1)*4+x)))∧w'.cell? ⟨w.heap.size,(y+1)*4+(x+1),none⟩=some (.int .i64 (G ((y+1)*4+(x+1)))))
       (first | (with_reducible exact ⟨c0,c1,c2,c3⟩) | (with_reducible exact ⟨e0,e1,e2,e3⟩) | go_keep)
       ((go_at_call 226;refine (HJN.out _ (by exact HI.out.drew)).mono ?_;intro e w3 hq;obtain ⟨r,R2,S2,A2,bad2,rfl,hh,hI3,_,_⟩:=hq;have e0:=hI3.gg.cell (gC_get G (i:=y*4+x) (by have:=HY3.out;have:=HX3.out;omega));have e1:=hI3.gg.cell (gC_get G (i:=y*4+(x+1)) (by have:=HY3.out;have:=HX3.out;omega));have e2:=hI3.gg.cell (gC_get G (i:=(y+1)*4+x) (by have:=HY3.out;have:=HX3.out;omega));have e3:=hI3.gg.cell (gC_get G (i:=(y+1)*4+(x+1)) (by have:=HY3.out;have:=HX3.out;omega))))
      all_goals (
       clear c0 c1 c2 c3 e0 e1 e2 e3
       go_wp2_with fail
       go_meet
       exact ⟨r,R2,S2,A2,bad2,rfl,hh,hI3⟩)
     case rest=>
      obtain ⟨r,R2,S2,A2,bad2,rfl,hh,hI3⟩:=hcut
      have HI3:=Lib.hid hI3
      have HH:=Lib.hid hh
      clear hI3 hh c0 c1 c2 c3 HJN HI
      have hix:3*y+x<9:=by have:=HY3.out;have:=HX3.out;omega
      have HIX:=Lib.hid hix
      cases fl
      ·have HGR:=Lib.hid (fun W hW=>HS.out.grid rfl N (3*y+x) R2 S2 A2 bad2 W hW y x HY3.out HX3.out r HH.out)
       have HMD:=Lib.hid (fun W hW g hg=>HS.out.mid rfl N (3*y+x) R2 S2 A2 bad2 W hW y x HY3.out HX3.out r HH.out g hg)
       go_wp2_with fail
       go_region_law (first
        | (go_simp;go_at_call 214;refine (HGR.out _ (by exact HI3.out.drew)).mono ?_;intro e w4 hq;obtain ⟨g,rfl,hg,hI5⟩:=hq)
        | (go_simp;go_at_call 227;refine (HMD.out _ (by exact hI5) g hg).mono ?_;intro e w5 hq;obtain ⟨r4,R4,S4,A4,bad4,rfl,hh4,hI4,_,_⟩:=hq;have d0:w5.cell? ⟨w.heap.size+1,y*3+x,none⟩=some (.int .i64 (N (y*3+x))):=hI4.nn.cell (nC_get N (by have:=HIX.out;omega));have f0:=hI4.nn.frozen (y*3+x)))
       all_goals (
        have HP:=Lib.hid (hI4.put hix hh4)
        clear d0 f0
        go_wp2_with fail
        refine ⟨⟨x+1,upd N (3*y+x) r4,R4,S4,A4,bad4,?_,HX3.out,?_⟩,?_⟩
        ·go_num
        ·have h:=HP.out
         rw [show 3*y+x=y*3+x by omega] at h ⊢
         rw [show 3*y+(x+1)=y*3+x+1 by omega]
         exact h
        ·simp [intOf];have:=HX3.out;omega)
      ·have HRS:=Lib.hid (fun W hW=>HS.out.res rfl N (3*y+x) R2 S2 A2 bad2 W hW y x HY3.out HX3.out r HH.out)
       go_wp2_with fail
       go_region_law (first
        | (go_simp;go_at_call 193;refine (HRS.out _ (by exact HI3.out.drew)).mono ?_;intro e w4 hq;obtain ⟨r4,R4,S4,A4,bad4,rfl,hh4,hI4,_,_⟩:=hq;have d0:w4.cell? ⟨w.heap.size+1,y*3+x,none⟩=some (.int .i64 (N (y*3+x))):=hI4.nn.cell (nC_get N (by have:=HIX.out;omega));have f0:=hI4.nn.frozen (y*3+x)))
       all_goals (
        have HP:=Lib.hid (hI4.put hix hh4)
        clear d0 f0
        go_wp2_with fail
        refine ⟨⟨x+1,upd N (3*y+x) r4,R4,S4,A4,bad4,?_,HX3.out,?_⟩,?_⟩
        ·go_num
        ·have h:=HP.out
         rw [show 3*y+x=y*3+x by omega] at h ⊢
         rw [show 3*y+(x+1)=y*3+x+1 by omega]
         exact h
        ·simp [intOf];have:=HX3.out;omega)
    ·obtain rfl:x=3:=by omega
     go_wp2_with fail
     refine ⟨⟨y+1,N,R',S',A',bad',?_,HY3.out,?_⟩,?_⟩
     ·go_num
     ·exact HI.out
     ·simp [intOf];have:=HY3.out;omega
  ·obtain rfl:y=3:=by omega
   clear hy hy3
   have HI9:Hid (LargeI w hb p R S A t b l bad C G U D N 9 R' S' A' bad' wr):=HI.out
   clear HI
   go_wp2_with fail
   have H2:Hid (LargeQ w hb p R S A t b l bad C G U D V E N wr.heap.size (fun _=>0) 0 R' S' A' bad' (wr.alloc (.cells #[.int .i64 0,.int .i64 0,.int .i64 0,.int .i64 0] 22))):=⟨HI9.out.alloc _,Lc.new HI9.out.lp _ (QC fun _=>0),HI9.out.lo,fun _ k hk=>absurd hk (Nat.not_lt_zero _)⟩
   generalize hqb:wr.heap.size=qb at H2 ⊢
   clear HI9 hqb
   generalize World.alloc wr _=w5 at H2 ⊢
   go_loopw [78] (fun kv wx=>∃(k:Nat) (Q:Nat→Int) (R':ArR) (S':ArS) (A':Nat→Abs) (bad':Int),kv= .int .i64 k∧k≤4∧LargeQ w hb p R S A t b l bad C G U D V E N qb Q k R' S' A' bad' wx) (fun kv _=>4-(intOf kv).toNat)
   case atStart=>exact ⟨0,_,R',S',A',bad',rfl,Nat.zero_le _,H2.out⟩
   case round=>
    clear H2
    obtain ⟨k,Q,R',S',A',bad',rfl,hk,hI⟩:=hrel
    have HI:=Lib.hid hI
    clear hI
    by_cases hk4:k<4
    ·have HK4:=Lib.hid hk4
     obtain ⟨y,hy⟩:∃y,y=k/2:=⟨_,rfl⟩
     obtain ⟨x,hx⟩:∃x,x=k%2:=⟨_,rfl⟩
     have hki:(k:Int)<4:=by omega
     have hk0:0≤(k:Int):=by omega
     have HYX:Hid (y<2∧x<2∧k=2*y+x):=⟨by omega,by omega,by omega⟩
     have hdy:(k:Int)/2=(y:Int):=by omega
     have hdx:(k:Int)%2=(x:Int):=by omega
     have hty:(k:Int).tdiv 2=(y:Int):=by rw [Int.tdiv_eq_ediv_of_nonneg hk0];exact hdy
     have htx:(k:Int).tmod 2=(x:Int):=by rw [Int.tmod_eq_emod_of_nonneg hk0];exact hdx
     clear hk hk4 hy hx
     have HJN:=Lib.hid (fun W hW=>HS.out.join2 N R' S' A' bad' W hW y x HYX.out.1 HYX.out.2.1)
     have hyi:(y:Int)<3:=by have:=HYX.out;omega
     have hxi:(x:Int)<3:=by have:=HYX.out;omega
     have hxs:((x+1:Nat):Int)<3:=by have:=HYX.out;omega
     have hys:((y+1:Nat):Int)<3:=by have:=HYX.out;omega
     have hwy:=wrap_succ y (by have:=HYX.out;omega)
     have hwx:=wrap_succ x (by have:=HYX.out;omega)
     have hxs1:(x:Int)+1<3:=by have:=HYX.out;omega
     have hys1:(y:Int)+1<3:=by have:=HYX.out;omega
     have hxs0:(0:Int)≤(x:Int)+1:=by omega
     have hys0:(0:Int)≤(y:Int)+1:=by omega
     have c0:=HI.out.lg.nn.cell (nC_get N (i:=y*3+x) (by have:=HYX.out;omega))
     have c1:=HI.out.lg.nn.cell (nC_get N (i:=y*3+(x+1)) (by have:=HYX.out;omega))
     have c2:=HI.out.lg.nn.cell (nC_get N (i:=(y+1)*3+x) (by have:=HYX.out;omega))
     have c3:=HI.out.lg.nn.cell (nC_get N (i:=(y+1)*3+(x+1)) (by have:=HYX.out;omega))
     go_wp2_with fail
     go_cut [18] (fun sv wx=>∃(r:Int) (R2:ArR) (S2:ArS) (A2:Nat→Abs) (bad2:Int),sv= .int .i64 r∧(bad2=0→HasD S2 A2 t r (F2 y x) [])∧LargeQ w hb p R S A t b l bad C G U D V E N qb Q k R2 S2 A2 bad2 wx)
     case first=>
      go_region_held3 (fun w'=>w'.cell? ⟨w.heap.size+1,y*3+x,none⟩=some (.int .i64 (N (y*3+x)))∧w'.cell? ⟨w.heap.size+1,y*3+(x+1),none⟩=some (.int .i64 (N (y*3+(x+1))))∧w'.cell? ⟨w.heap.size+1,(y+1)*3+x,none⟩=some (.int .i64 (N ((y+1)*3+x)))∧w'.cell? ⟨w.heap.size+1,(y+1)*3+(x+1),none⟩=some (.int .i64 (N ((y+1)*3+(x+1)))))
       (first | (with_reducible exact ⟨c0,c1,c2,c3⟩) | (with_reducible exact ⟨e0,e1,e2,e3⟩) | go_keep)
       ((go_at_call 226;refine (HJN.out _ (by exact HI.out.lg.drew)).mono ?_;intro e w3 hq;obtain ⟨r,R2,S2,A2,bad2,rfl,hh,hI3,hs3,hg3⟩:=hq;have e0:=hI3.nn.cell (nC_get N (i:=y*3+x) (by have:=HYX.out;omega));have e1:=hI3.nn.cell (nC_get N (i:=y*3+(x+1)) (by have:=HYX.out;omega));have e2:=hI3.nn.cell (nC_get N (i:=(y+1)*3+x) (by have:=HYX.out;omega));have e3:=hI3.nn.cell (nC_get N (i:=(y+1)*3+(x+1)) (by have:=HYX.out;omega))))
      all_goals (
       clear c0 c1 c2 c3 e0 e1 e2 e3
       go_wp2_with fail
       go_meet
       exact ⟨r,R2,S2,A2,bad2,rfl,hh,HI.out.drew.step hI3 hs3 hg3⟩)
     case rest=>
      obtain ⟨r,R2,S2,A2,bad2,rfl,hh,hI3⟩:=hcut
      have HI3:=Lib.hid hI3
      have HH:=Lib.hid hh
      have HRS:=Lib.hid (fun W hW=>HS.out.res2 N R2 S2 A2 bad2 W hW y x HYX.out.1 HYX.out.2.1 r HH.out)
      clear hI3 hh c0 c1 c2 c3 HJN HI hdy hdx hty htx
      cases fl
      ·have HR2:Hid (∀W,LargeI w hb p R S A t b l bad C G U D N 9 R2 S2 A2 bad2 W→Calls Tryz.prog 193 #[.pointer (some ⟨hb,0,none⟩),.int .i64 r,.int .i64 ((n:Int)+2),.int .i64 j] W (LargeP w hb p R S A t b l bad C G U D N 9 R2 S2 A2 bad2 W (V (2*y+x)) (E (2*y+x)))):=HRS.out
       clear HRS
       go_wp2_with fail
       (with_reducible refine (HR2.out _ HI3.out.lg).mono ?_)
       intro e w4 hq
       obtain ⟨r4,R4,S4,A4,bad4,rfl,hh4,hI4,hs4,hg4⟩:=hq
       have HQ4:=Lib.hid (HI3.out.step hI4 hs4 hg4)
       have d0:=HQ4.out.q.cell (QC_get Q HK4.out)
       have f0:=HQ4.out.q.frozen k
       have HP:=Lib.hid (HQ4.out.put HK4.out (by have e:=HYX.out.2.2;rw [e];exact hh4))
       clear hh4 hI4 hs4 hg4
       go_wp2_with fail
       go_roundw
       case rel=>
        repeat apply Exists.intro
        refine And.intro ?_ rfl
        exact ⟨k+1,upd Q k r4,R4,S4,A4,bad4,by go_num,HK4.out,HP.out⟩
       case measure=>simp [intOf];have:=HK4.out;omega
      ·have HR2:Hid (∀W,LargeI w hb p R S A t b l bad C G U D N 9 R2 S2 A2 bad2 W→Calls Tryz.prog 193 #[.pointer (some ⟨hb,0,none⟩),.int .i64 r,.int .i64 ((n:Int)+2),.int .i64 (j-1)] W (LargeP w hb p R S A t b l bad C G U D N 9 R2 S2 A2 bad2 W (V (2*y+x)) (E (2*y+x)))):=HRS.out
       clear HRS
       go_wp2_with fail
       (with_reducible refine (HR2.out _ HI3.out.lg).mono ?_)
       intro e w4 hq
       obtain ⟨r4,R4,S4,A4,bad4,rfl,hh4,hI4,hs4,hg4⟩:=hq
       have HQ4:=Lib.hid (HI3.out.step hI4 hs4 hg4)
       have d0:=HQ4.out.q.cell (QC_get Q HK4.out)
       have f0:=HQ4.out.q.frozen k
       have HP:=Lib.hid (HQ4.out.put HK4.out (by have e:=HYX.out.2.2;rw [e];exact hh4))
       clear hh4 hI4 hs4 hg4
       go_wp2_with fail
       go_roundw
       case rel=>
        repeat apply Exists.intro
        refine And.intro ?_ rfl
        exact ⟨k+1,upd Q k r4,R4,S4,A4,bad4,by go_num,HK4.out,HP.out⟩
       case measure=>simp [intOf];have:=HK4.out;omega
    ·obtain rfl:k=4:=by omega
     have HJN:=Lib.hid (fun W hW=>HS.out.join3 N R' S' A' bad' W hW Q (fun e i hi=>HI.out.done e i hi))
     have q0:=HI.out.q.cell (QC_get Q (k:=0) (by decide))
     have q1:=HI.out.q.cell (QC_get Q (k:=1) (by decide))
     have q2:=HI.out.q.cell (QC_get Q (k:=2) (by decide))
     have q3:=HI.out.q.cell (QC_get Q (k:=3) (by decide))
     clear hk hk4
     go_wp2_with fail
     (with_reducible refine (HJN.out _ HI.out.lg).mono ?_)
     intro e w6 hq
     obtain ⟨r4,R4,S4,A4,bad4,rfl,hh4,hI4,hs4,hg4⟩:=hq
     have HI4:=Lib.hid hI4
     have HH4:=Lib.hid hh4
     have HQ4:=Lib.hid (HI.out.step hI4 hs4 hg4)
     clear hh4 hI4 hs4 hg4 q0 q1 q2 q3 HJN
     go_wp2_with fail
     go_returns
     exact ⟨r4,S4,A4,R4,bad4,rfl,HI4.out.gr,fun e=>(HH4.out e).1,HI4.out.lp,HI4.out.st.fin,fun e=>HKK.out _ (fun i hi=>(HI4.out.told e i hi).2) (fun k hk=>(HQ4.out.done e k hk).2) (HH4.out e).1.2⟩
end Go.Proofs.YthohnjgnpapnoaaGreatDoor
