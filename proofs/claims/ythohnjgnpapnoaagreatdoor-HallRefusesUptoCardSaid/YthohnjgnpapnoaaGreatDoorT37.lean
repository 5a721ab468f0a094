/- HallRefuses: the law: what reading says, and what a refusal leaves. No program is walked here. · keep: sameAnswer, of answers without cells. · lifelodgekeep: HallRefuses, the walk. -/
import Derived.Test.YthohnjgnpapnoaaGreatDoorR34
import Derived.Test.YthohnjgnpapnoaaGreatDoorR35
import Derived.Test.YthohnjgnpapnoaaGreatDoorR15
import Derived.Test.YthohnjgnpapnoaaGreatDoorR36
import Derived.Deep.RegionLaw
import Derived.Deep.RegionHeld3
import Derived.Deep.DeepCutAuto
set_option linter.unusedVariables false
set_option linter.unusedSimpArgs false
namespace Go.Proofs.YthohnjgnpapnoaaGreatDoor
open Go.RowKit
open Classical in
noncomputable def rdA (Ws:List WD) (K:List KeyD) (q:SReq):An:=
 if (hfind Ws K q.name 1).2≠0 then An.zero (hfind Ws K q.name 1).2 else
  match Ws[(hfind Ws K q.name 1).1]? with
  | none=>An.zero 0
  | some y=>if q.verb=5 then (if (cntR (rootT y.P y.k)).2≠0 then An.zero (cntR (rootT y.P y.k)).2 else {An.zero 0 with n:=(cntR (rootT y.P y.k)).1,b:=y.b,l:=y.l})
    else if blankT (rootT y.P y.k)=true then {An.zero 0 with b:=y.b,l:=y.l} else {An.zero 0 with n:=1,b:=y.b,l:=y.l,x0:=bxX0 y.P y.k,y0:=bxY0 y.P y.k,x1:=bxX1 y.P y.k,y1:=bxY1 y.P y.k}
section
variable {H H' H1 H2 H3 : HS} {q : SReq} {t : Nat} {d : Int} {a x : An}
theorem DoR.read_is (D:DoR H q t d a H') (hv:q.verb=5∨q.verb=6):a=rdA H.Ws H.K q:=by
 have hv3:q.verb=3∨q.verb=5∨q.verb=6:= .inr hv
 by_cases h0:a.code=0
 ·obtain ⟨_,g1,y,g2,g3⟩:=(D.yes h0).read' hv3
  have g1:(hfind H.Ws H.K q.name 1).2=0:=g1
  have g2:H.Ws[(hfind H.Ws H.K q.name 1).1]? =some y:=g2
  unfold rdA
  rw [if_neg (by rw [g1];simp),g2]
  dsimp only
  rcases g3 with ⟨e,_⟩ | ⟨e,g4,g5⟩ | ⟨e,_,g5⟩
  ·omega
  ·rw [if_pos e,if_neg (by rw [←g4];simp)];exact g5
  ·rw [if_neg (by omega)]
   rcases g5 with ⟨g6,g7⟩ | ⟨g6,g7⟩
   ·rw [if_pos g6];exact g7
   ·rw [if_neg (by rw [g6];decide)];exact g7
 ·have e0:=(D.no h0).1
  obtain ⟨Hx,hF⟩:=D.why h0
  rcases (hF.read' hv3).2 with g | ⟨g1,y,a',g2,g3⟩
  ·have g:(hfind H.Ws H.K q.name 1).2=a.code:=g
   unfold rdA
   rw [if_pos (by rw [g];exact h0),g]
   exact e0
  ·have g1:(hfind H.Ws H.K q.name 1).2=0:=g1
   have g2:H.Ws[(hfind H.Ws H.K q.name 1).1]? =some y:=g2
   unfold rdA
   rw [if_neg (by rw [g1];simp),g2]
   dsimp only
   rcases g3 with ⟨e,_⟩ | ⟨e,g4,_⟩ | ⟨e,g4,_⟩
   ·omega
   ·rw [if_pos e,if_pos (by rw [←g4];exact h0),←g4];exact e0
   ·exact absurd g4 h0
theorem rdA_cells (Ws:List WD) (K:List KeyD) (q:SReq):(rdA Ws K q).cells= []:=by
 unfold rdA
 repeat' split
 all_goals rfl
structure Still (t:Nat) (H H':HS):Prop where
 hv:∀x,x∈(H'.A t).have_↔x∈(H.A t).have_
 ws:H'.Ws=H.Ws
 k:H'.K=H.K
 ser:H'.ser=H.ser
theorem Still.trans (h:Still t H H1) (g:Still t H1 H2):Still t H H2:=⟨fun x=>(g.hv x).trans (h.hv x),g.ws.trans h.ws,g.k.trans h.k,g.ser.trans h.ser⟩
theorem DoR.no_still (D:DoR H q t d a H') (h0:a.code≠0):Still t H H':=by
 obtain ⟨_,g1,g2,g3,g4,_⟩:=D.no h0
 exact ⟨g1,g2,g4,g3⟩
theorem DoR.read_still (D:DoR H q t d a H') (hv:q.verb=5∨q.verb=6):Still t H H':=by
 by_cases h0:a.code=0
 ·obtain ⟨g,_⟩:=(D.yes h0).read' (.inr hv)
  rw [g]
  refine ⟨fun x=>?_,rfl,rfl,rfl⟩
  show x∈(markA H.A t t).have_↔_
  unfold markA
  rw [upd_same]
 ·exact D.no_still h0
theorem Still.count (h:Still t H H') (hr:Rel H.S H.A) (hr':Rel H'.S H'.A) (ht:t<64):H'.S.count t=H.S.count t:=by
 rw [hr.count ht,hr'.count ht,nodup_len (hr'.ok t ht).nodup (hr.ok t ht).nodup h.hv]
end
end Go.Proofs.YthohnjgnpapnoaaGreatDoor
namespace Go.Proofs.YthohnjgnpapnoaaGreatDoor
open Go.RowKit
set_option maxRecDepth 100000 in
set_option maxHeartbeats 3200000 in
theorem sameAnswer_true (w:World) (a:An) (A1 A2:Option Addr) (c1 c2:Nat) (h1:c1≤maxLen) (h2:c2≤maxLen):
 Calls Tryz.prog 27 #[ansV a (.slice A1 0 c1),ansV a (.slice A2 0 c2)] w fun e w'=>e= .returned (.bool true)∧Below w.heap.size w w':=by
 have HR1:Hid (∀wx,Rd wx 0 2 (.slice A1 0 c1) 0 (flat [])):=fun wx=>⟨rfl,_,_,rfl,Nat.zero_le _,h1,fun h=>absurd h (Nat.lt_irrefl _)⟩
 have HR2:Hid (∀wx,Rd wx 0 2 (.slice A2 0 c2) 0 (flat [])):=fun wx=>⟨rfl,_,_,rfl,Nat.zero_le _,h2,fun h=>absurd h (Nat.lt_irrefl _)⟩
 have HSM:=Lib.hid (fun wx=>same_true wx 0 0 0 _ _ [] (HR1.out wx) (HR2.out wx))
 clear h1 h2
 unfold ansV
 go_enter Tryz.func27,Tryz.ntmps27
 go_wp2_with fail
 (with_reducible refine (HSM.out _).mono ?_)
 rintro e w2 ⟨rfl,n,rfl⟩
 go_wp2_with fail
 go_ret
 have hb:Below w.heap.size w ((w.alloc (.cells #[.int .i64 a.code,.int .i64 a.n,.int .i64 a.x0,.int .i64 a.y0,.int .i64 a.x1,.int .i64 a.y1,.int .i64 a.b,.int .i64 a.l,.string (str a.key),.slice A1 0 c1] 57)).alloc (.cells #[.int .i64 a.code,.int .i64 a.n,.int .i64 a.x0,.int .i64 a.y0,.int .i64 a.x1,.int .i64 a.y1,.int .i64 a.b,.int .i64 a.l,.string (str a.key),.slice A2 0 c2] 57)):=((Below.refl _ _).alloc (Nat.le_refl _) _).alloc (by simp) _
 exact ⟨rfl,⟨hb.os,hb.tape,hb.output,hb.size,hb.block⟩⟩
end Go.Proofs.YthohnjgnpapnoaaGreatDoor
namespace Go.Proofs.YthohnjgnpapnoaaGreatDoor
open Go.RowKit
def RefRel (W:World) (h p i:Nat) (w:World):Prop:=
 ∃(R:ArR) (H:HS) (wv kv:Value),Ha W h p 9 77 R H wv kv w∧H.ser≤i
theorem three {W w:World} {h p t:Nat} {d:Int} {R:ArR} {H:HS} {wv kv:Value} {Rs Ms:List (Value×List (Int×Int))} {b1 b2 b3:Nat} {x0 y0 z0 x1 y1 z1 x2 y2 z2 x3 y3 z3 x4 y4 z4 x5 y5 z5 x6 y6 z6 x7 y7 z7 x8 y8 z8 x9 y9 z9:Value}
 (L:LSt W h p t d R H wv kv [(b3,57,#[x0,x1,x2,x3,x4,x5,x6,x7,x8,x9]),(b2,57,#[y0,y1,y2,y3,y4,y5,y6,y7,y8,y9]),(b1,57,#[z0,z1,z2,z3,z4,z5,z6,z7,z8,z9])] Rs Ms w):
 w.cell? ⟨b3,0,none⟩=some x0∧w.cell? ⟨b3,1,none⟩=some x1∧w.cell? ⟨b3,2,none⟩=some x2∧w.cell? ⟨b3,3,none⟩=some x3∧w.cell? ⟨b3,4,none⟩=some x4∧w.cell? ⟨b3,5,none⟩=some x5∧w.cell? ⟨b3,6,none⟩=some x6∧w.cell? ⟨b3,7,none⟩=some x7∧w.cell? ⟨b3,8,none⟩=some x8∧w.cell? ⟨b3,9,none⟩=some x9∧w.cell? ⟨b2,0,none⟩=some y0∧w.cell? ⟨b2,1,none⟩=some y1∧w.cell? ⟨b2,2,none⟩=some y2∧w.cell? ⟨b2,3,none⟩=some y3∧w.cell? ⟨b2,4,none⟩=some y4∧w.cell? ⟨b2,5,none⟩=some y5∧w.cell? ⟨b2,6,none⟩=some y6∧w.cell? ⟨b2,7,none⟩=some y7∧w.cell? ⟨b2,8,none⟩=some y8∧w.cell? ⟨b2,9,none⟩=some y9∧w.cell? ⟨b1,0,none⟩=some z0∧w.cell? ⟨b1,1,none⟩=some z1∧w.cell? ⟨b1,2,none⟩=some z2∧w.cell? ⟨b1,3,none⟩=some z3∧w.cell? ⟨b1,4,none⟩=some z4∧w.cell? ⟨b1,5,none⟩=some z5∧w.cell? ⟨b1,6,none⟩=some z6∧w.cell? ⟨b1,7,none⟩=some z7∧w.cell? ⟨b1,8,none⟩=some z8∧w.cell? ⟨b1,9,none⟩=some z9:=
 ⟨L.cell (.head _) 0 rfl,L.cell (.head _) 1 rfl,L.cell (.head _) 2 rfl,L.cell (.head _) 3 rfl,L.cell (.head _) 4 rfl,L.cell (.head _) 5 rfl,L.cell (.head _) 6 rfl,L.cell (.head _) 7 rfl,L.cell (.head _) 8 rfl,L.cell (.head _) 9 rfl,L.cell (.tail _ (.head _)) 0 rfl,L.cell (.tail _ (.head _)) 1 rfl,L.cell (.tail _ (.head _)) 2 rfl,L.cell (.tail _ (.head _)) 3 rfl,L.cell (.tail _ (.head _)) 4 rfl,L.cell (.tail _ (.head _)) 5 rfl,L.cell (.tail _ (.head _)) 6 rfl,L.cell (.tail _ (.head _)) 7 rfl,L.cell (.tail _ (.head _)) 8 rfl,L.cell (.tail _ (.head _)) 9 rfl,L.cell (.tail _ (.tail _ (.head _))) 0 rfl,L.cell (.tail _ (.tail _ (.head _))) 1 rfl,L.cell (.tail _ (.tail _ (.head _))) 2 rfl,L.cell (.tail _ (.tail _ (.head _))) 3 rfl,L.cell (.tail _ (.tail _ (.head _))) 4 rfl,L.cell (.tail _ (.tail _ (.head _))) 5 rfl,L.cell (.tail _ (.tail _ (.head _))) 6 rfl,L.cell (.tail _ (.tail _ (.head _))) 7 rfl,L.cell (.tail _ (.tail _ (.head _))) 8 rfl,L.cell (.tail _ (.tail _ (.head _))) 9 rfl⟩
theorem count9 (w:World) (p:Nat) (R:ArR) (S:ArS) (h:ArM w p R S):Calls Tryz.prog 24 #[.pointer (some ⟨p,0,none⟩),.int .i64 9] w fun e w'=>e= .returned (.int .i64 (S.count 9))∧w=w':=count_any w p R S h 9 (by decide)
set_option maxRecDepth 100000 in
set_option maxHeartbeats 12800000 in
theorem refuses_any (W:World) (quota:Int) (hqu: -9223372036854775808≤quota∧quota≤9223372036854775807) (N:Nat) (v:Value) (L:List (SReq×Value)) (hR:ReqsIn W v N L) (hg:4<W.heap.size∧tabOk W):
 Calls Tryz.prog 6 #[.int .i64 quota,v] W fun e W'=>e= .returned (.bool true)∧Below W.heap.size W W':=by
 obtain ⟨vA,vcap,rfl,hc1,hc2⟩:=hR.rd.form
 have HR:=Lib.hid hR
 have HG:=Lib.hid hg
 have HQU:=Lib.hid hqu
 unfold maxLen at hc2
 clear hR hg hqu
 go_enter Tryz.func6,Tryz.ntmps6
 go_wp2_with fail
 (with_reducible refine (spot_any quota 5000 (by decide) (by decide) HQU.out.1 HQU.out.2 W).mono ?_)
 rintro e wq ⟨rfl,rfl⟩
 have hq0:0≤quota%5000:=Int.emod_nonneg _ (by decide)
 have hq1:quota%5000<5000:=Int.emod_lt_of_pos _ (by decide)
 generalize quota%5000=qq at*
 go_wp2_with fail
 (with_reducible refine (rooms_any W qq ⟨hq0,by omega⟩).mono ?_)
 rintro e w1 ⟨p,h,R,S,A,rfl,hl,hA,hrm,hqt,hwi,hyg,hbl⟩
 have HREL:Hid (RefRel W h p 0 w1):=⟨R,⟨S,A,[],0,[]⟩,.slice none 0 0,.slice none 0 0,⟨hl,hyg,hbl⟩,Nat.le_refl _⟩
 clear hl hA hrm hqt hwi hyg hbl
 go_wp2_with fail
 go_loopw [8] (fun iv wx=>∃i:Nat,iv= .int .i64 i∧i≤N∧i≤15∧RefRel W h p i wx) (fun iv _=>15-(intOf iv).toNat)
 case atStart=>exact ⟨0,rfl,Nat.zero_le _,Nat.zero_le _,HREL.out⟩
 case round=>
  obtain ⟨i,rfl,hi,hi2,R0,H0,wv0,kv0,hha,hsr⟩:=hrel
  have HH:=Lib.hid hha
  have HS:=Lib.hid hsr
  clear hha hsr HREL
  by_cases h1:i<N
  ·have k1:(i:Int)<(N:Int):=Int.ofNat_lt.2 h1
   by_cases h2:i<15
   ·have k2:(i:Int)<15:=by omega
    obtain ⟨x,hx⟩:∃x,L[i]? =some x:=⟨L[i]'(by have:=HR.out.len;omega),List.getElem?_eq_getElem _⟩
    obtain ⟨b,off,cap,hv,_,_,hb,hc⟩:=HR.out.rd.at (by omega)
    injection hv with hv _ hcap
    subst hv
    subst hcap
    have HC:=Lib.hid (reqs_cells hx hc)
    have HBW:=Lib.hid hb
    have HF:=Lib.hid (HR.out.fit x (List.mem_of_getElem? hx))
    obtain ⟨q,u⟩:=x
    have k0:¬((i:Int)<0):=Int.not_lt.2 (Int.natCast_nonneg i)
    have HI1:=Lib.hid h1
    have HI2:=Lib.hid h2
    clear hc hb h1 h2 hi hi2 hx
    go_wp2_with fail
    (with_reducible refine (count9 wr p R0 H0.S HH.out.hl.ar.arm).mono ?_)
    rintro e wq ⟨rfl,rfl⟩
    have HL0:=Lib.hid HH.out.lst
    obtain ⟨nn,hnn⟩:∃nn,H0.S.count 9=nn:=⟨_,rfl⟩
    rw [hnn]
    have HNN:=Lib.hid hnn
    clear hnn
    have HD1:Hid (Calls Tryz.prog 25 #[.pointer (some ⟨h,0,none⟩),.agg #[.int .i64 6,.string ⟨#[97,98]⟩,.string ⟨#[]⟩,.int .i64 0,.int .i64 0,.int .i64 0,.slice none 0 0]] wr (DoL W h p 9 77 R0 H0 wv0 kv0 [] [] [] ⟨6,[97,98],[],0,0,0,[]⟩ wr)):=HL0.out.do_nil ⟨6,[97,98],[],0,0,0,[]⟩ (by show (2:Nat)≤_;decide) (by show (0:Nat)≤_;decide) rfl (by show _≤(0:Int)∧(0:Int)≤_;decide) (fun h=>absurd h (by decide)) (fun h=>absurd h (by decide))
    go_wp2_with fail
    (with_reducible refine HD1.out.mono ?_)
    rintro e w1a ⟨a1,vA1,vn1,vcap1,H1,wv1,kv1,R1,rfl,hd1,hl1,hz1⟩
    have HR1:=Lib.hid hd1
    have HZ1:Hid (a1.cells.length=vn1∧vcap1≤maxLen):=by
     obtain ⟨A',cap',hv',_,hm'⟩:=(hl1.rd _ List.mem_cons_self).rd.form
     injection hv' with _ h1' h2'
     exact ⟨h1'.symm,by rw [h2'];exact hm'⟩
    have hn1:vn1=0:=by rw [←HZ1.out.1,HR1.out.read_is (.inr rfl),rdA_cells];rfl
    subst hn1
    have HL1:=Lib.hid (hl1.drop.alloc 57 #[.int .i64 a1.code,.int .i64 a1.n,.int .i64 a1.x0,.int .i64 a1.y0,.int .i64 a1.x1,.int .i64 a1.y1,.int .i64 a1.b,.int .i64 a1.l,.string (str a1.key),.slice vA1 0 vcap1])
    clear hd1 hl1 hz1 HD1
    unfold ansV
    have HD2:Hid (Calls Tryz.prog 25 #[.pointer (some ⟨h,0,none⟩),.agg #[.int .i64 5,.string ⟨#[97,98]⟩,.string ⟨#[]⟩,.int .i64 0,.int .i64 0,.int .i64 0,.slice none 0 0]] (w1a.alloc (.cells #[.int .i64 a1.code,.int .i64 a1.n,.int .i64 a1.x0,.int .i64 a1.y0,.int .i64 a1.x1,.int .i64 a1.y1,.int .i64 a1.b,.int .i64 a1.l,.string (str a1.key),.slice vA1 0 vcap1] 57)) (DoL W h p 9 77 R1 H1 wv1 kv1 [(w1a.heap.size,57,#[.int .i64 a1.code,.int .i64 a1.n,.int .i64 a1.x0,.int .i64 a1.y0,.int .i64 a1.x1,.int .i64 a1.y1,.int .i64 a1.b,.int .i64 a1.l,.string (str a1.key),.slice vA1 0 vcap1])] [] [] ⟨5,[97,98],[],0,0,0,[]⟩ (w1a.alloc (.cells #[.int .i64 a1.code,.int .i64 a1.n,.int .i64 a1.x0,.int .i64 a1.y0,.int .i64 a1.x1,.int .i64 a1.y1,.int .i64 a1.b,.int .i64 a1.l,.string (str a1.key),.slice vA1 0 vcap1] 57)))):=HL1.out.do_nil ⟨5,[97,98],[],0,0,0,[]⟩ (by show (2:Nat)≤_;decide) (by show (0:Nat)≤_;decide) rfl (by show _≤(0:Int)∧(0:Int)≤_;decide) (fun h=>absurd h (by decide)) (fun h=>absurd h (by decide))
    go_wp2_with fail
    (with_reducible refine HD2.out.mono ?_)
    generalize hb1:w1a.heap.size=b1 at*
    have HB1:=Lib.hid hb1
    clear hb1
    generalize World.alloc w1a _=w1b at*
    rintro e w2a ⟨a2,vA2,vn2,vcap2,H2,wv2,kv2,R2,rfl,hd2,hl2,hz2⟩
    have HR2:=Lib.hid hd2
    have HZ2:Hid (a2.cells.length=vn2∧vcap2≤maxLen):=by
     obtain ⟨A',cap',hv',_,hm'⟩:=(hl2.rd _ List.mem_cons_self).rd.form
     injection hv' with _ h1' h2'
     exact ⟨h1'.symm,by rw [h2'];exact hm'⟩
    have hn2:vn2=0:=by rw [←HZ2.out.1,HR2.out.read_is (.inl rfl),rdA_cells];rfl
    subst hn2
    have HL2:=Lib.hid (hl2.drop.alloc 57 #[.int .i64 a2.code,.int .i64 a2.n,.int .i64 a2.x0,.int .i64 a2.y0,.int .i64 a2.x1,.int .i64 a2.y1,.int .i64 a2.b,.int .i64 a2.l,.string (str a2.key),.slice vA2 0 vcap2])
    clear hd2 hl2 hz2 HD2
    unfold ansV
    have HBA:Hid (Below W.heap.size W (w2a.alloc (.cells #[.int .i64 a2.code,.int .i64 a2.n,.int .i64 a2.x0,.int .i64 a2.y0,.int .i64 a2.x1,.int .i64 a2.y1,.int .i64 a2.b,.int .i64 a2.l,.string (str a2.key),.slice vA2 0 vcap2] 57))):=HL2.out.ha.bel
    have hbw:∀j,(w2a.alloc (.cells #[.int .i64 a2.code,.int .i64 a2.n,.int .i64 a2.x0,.int .i64 a2.y0,.int .i64 a2.x1,.int .i64 a2.y1,.int .i64 a2.b,.int .i64 a2.l,.string (str a2.key),.slice vA2 0 vcap2] 57)).cell? ⟨b,j,none⟩=W.cell? ⟨b,j,none⟩:=fun j=>HBA.out.cell HBW.out
    obtain ⟨c0,c1,c2,c3,c4,c5,c6⟩:=HC.out
    rw [←hbw] at c0 c1 c2 c3 c4 c5 c6
    have HRQ:=Lib.hid (request_any (w2a.alloc (.cells #[.int .i64 a2.code,.int .i64 a2.n,.int .i64 a2.x0,.int .i64 a2.y0,.int .i64 a2.x1,.int .i64 a2.y1,.int .i64 a2.b,.int .i64 a2.l,.string (str a2.key),.slice vA2 0 vcap2] 57)) q u ((HF.out.rd.below HBA.out).more HBA.out.size) HF.out.len)
    unfold reqV at HRQ
    clear hbw
    go_wp2_with fail
    (with_reducible refine HRQ.out.mono ?_)
    generalize hb2:w2a.heap.size=b2 at*
    have HB2:=Lib.hid hb2
    clear hb2
    generalize World.alloc w2a _=w2b at*
    rintro e w3 ⟨vA3,vcap3,rfl,hsl,hf,hb⟩
    have HL3:=Lib.hid (HL2.out.made hb hsl hf)
    have HDQ:=Lib.hid (HL3.out.do_own q vA3 vcap3 List.mem_cons_self HF.out.name HF.out.other HF.out.len HF.out.b (fun _=>by
     have h1:=HR1.out.ser
     have h2:=HR2.out.ser
     have:=HS.out
     have:=HI2.out
     show H2.ser<100
     omega) (fun _=>HG.out))
    unfold reqV at HDQ
    clear hsl hf hb c0 c1 c2 c3 c4 c5 c6 HRQ
    unfold reqV
    go_wp2_with fail
    (with_reducible refine HDQ.out.mono ?_)
    rintro e w3a ⟨a3,vA3,vn3,vcap3,H3,wv3,kv3,R3,rfl,hd3,hl3,hz3⟩
    have HR3:=Lib.hid hd3
    have HZ3:Hid (a3.cells.length=vn3∧vcap3≤maxLen):=by
     obtain ⟨A',cap',hv',_,hm'⟩:=(hl3.rd _ List.mem_cons_self).rd.form
     injection hv' with _ h1' h2'
     exact ⟨h1'.symm,by rw [h2'];exact hm'⟩
    have HLX:=Lib.hid hl3.dropM
    have HST:=Lib.hid ((HR1.out.read_still (.inr rfl)).trans (HR2.out.read_still (.inl rfl)))
    clear hd3 hl3 hz3 HDQ HL3 HL2 HL1 HL0
    unfold ansV
    by_cases hx0:a3.code=0
    ·have HL4:=Lib.hid (HLX.out.alloc 57 #[.int .i64 a3.code,.int .i64 a3.n,.int .i64 a3.x0,.int .i64 a3.y0,.int .i64 a3.x1,.int .i64 a3.y1,.int .i64 a3.b,.int .i64 a3.l,.string (str a3.key),.slice vA3 vn3 vcap3])
     have HE:Hid (RefRel W h p (i+1) (w3a.alloc (.cells #[.int .i64 a3.code,.int .i64 a3.n,.int .i64 a3.x0,.int .i64 a3.y0,.int .i64 a3.x1,.int .i64 a3.y1,.int .i64 a3.b,.int .i64 a3.l,.string (str a3.key),.slice vA3 vn3 vcap3] 57))):=⟨R3,H3,wv3,kv3,HL4.out.ha,by
      have h1:=HST.out.ser
      have h2:=HR3.out.ser
      have:=HS.out
      omega⟩
     have hxb:(a3.code==0)=true:=by rw [hx0];rfl
     clear hx0
     go_wp2_with fail
     go_roundw
     case rel=>exact ⟨i+1,by go_num,HI1.out,HI2.out,HE.out⟩
     case measure=>simp [intOf];have:=HI2.out;omega
    ·have HS3:=Lib.hid (HST.out.trans (HR3.out.no_still hx0))
     have hz3:=(HR3.out.no hx0).1
     have hn3:vn3=0:=by rw [←HZ3.out.1,hz3];rfl
     subst hn3
     have HZC:=Lib.hid HZ3.out.2
     clear HZ3
     obtain ⟨κ,hκ⟩:∃κ,κ=a3.code:=⟨_,rfl⟩
     rw [←hκ] at hz3 hx0
     subst hz3
     have HL4:Hid (LSt W h p 9 77 R3 H3 wv3 kv3 [(w3a.heap.size,57,#[.int .i64 κ,.int .i64 0,.int .i64 0,.int .i64 0,.int .i64 0,.int .i64 0,.int .i64 0,.int .i64 0,.string ⟨#[]⟩,.slice vA3 0 vcap3]),(b2,57,#[.int .i64 a2.code,.int .i64 a2.n,.int .i64 a2.x0,.int .i64 a2.y0,.int .i64 a2.x1,.int .i64 a2.y1,.int .i64 a2.b,.int .i64 a2.l,.string (str a2.key),.slice vA2 0 vcap2]),(b1,57,#[.int .i64 a1.code,.int .i64 a1.n,.int .i64 a1.x0,.int .i64 a1.y0,.int .i64 a1.x1,.int .i64 a1.y1,.int .i64 a1.b,.int .i64 a1.l,.string (str a1.key),.slice vA1 0 vcap1])] [(.slice vA3 0 vcap3,(An.zero κ).cells)] [] (w3a.alloc (.cells #[.int .i64 κ,.int .i64 0,.int .i64 0,.int .i64 0,.int .i64 0,.int .i64 0,.int .i64 0,.int .i64 0,.string ⟨#[]⟩,.slice vA3 0 vcap3] 57))):=HLX.out.alloc 57 #[.int .i64 κ,.int .i64 0,.int .i64 0,.int .i64 0,.int .i64 0,.int .i64 0,.int .i64 0,.int .i64 0,.string ⟨#[]⟩,.slice vA3 0 vcap3]
     have hxb:(κ==0)=false:=beq_eq_false_iff_ne.2 hx0
     have HK0:=Lib.hid hx0
     clear hx0 hκ
     dsimp only [An.zero,str]
     go_wp2_with fail
     generalize hw4:World.alloc w3a _=w4 at*
     clear hw4
     generalize hb3:w3a.heap.size=b3 at*
     clear hb3
     have E4:=three HL4.out
     have HRB:=Lib.hid (show ∀a4 H4,DoR H3 ⟨6,[97,98],[],0,0,0,[]⟩ 9 77 a4 H4→a4=a1 from fun a4 H4 hd=>by rw [hd.read_is (.inr rfl),HR1.out.read_is (.inr rfl),HS3.out.ws,HS3.out.k])
     have HRC:=Lib.hid (show ∀a5 H4 H5,DoR H3 ⟨6,[97,98],[],0,0,0,[]⟩ 9 77 a1 H4→DoR H4 ⟨5,[97,98],[],0,0,0,[]⟩ 9 77 a5 H5→a5=a2 from fun a5 H4 H5 hd hd5=>by
      have hs4:=hd.read_still (.inr rfl)
      have hs1:=HR1.out.read_still (.inr rfl)
      rw [hd5.read_is (.inl rfl),HR2.out.read_is (.inl rfl),hs4.ws,hs4.k,HS3.out.ws,HS3.out.k,hs1.ws,hs1.k])
     have HCN:Hid (∀wx,ArM wx p R3 H3.S→Calls Tryz.prog 24 #[.pointer (some ⟨p,0,none⟩),.int .i64 9] wx fun e w'=>e= .returned (.int .i64 nn)∧wx=w'):=fun wx ha=>by
      have hq:=count9 wx p R3 H3.S ha
      rw [HS3.out.count HH.out.hl.ar.rel HL4.out.ha.hl.ar.rel (by decide),HNN.out] at hq
      exact hq
     have HSX:Hid (∀wx,Calls Tryz.prog 27 #[.agg #[.int .i64 κ,.int .i64 0,.int .i64 0,.int .i64 0,.int .i64 0,.int .i64 0,.int .i64 0,.int .i64 0,.string ⟨#[]⟩,.slice vA3 0 vcap3],.agg #[.int .i64 κ,.int .i64 0,.int .i64 0,.int .i64 0,.int .i64 0,.int .i64 0,.int .i64 0,.int .i64 0,.string ⟨#[]⟩,.slice none 0 0]] wx fun e w'=>e= .returned (.bool true)∧Below wx.heap.size wx w'):=fun wx=>sameAnswer_true wx (An.zero κ) vA3 none vcap3 0 HZC.out (by decide)
     have HSB:Hid (∀wx vA4 vcap4,vcap4≤maxLen→Calls Tryz.prog 27 #[.agg #[.int .i64 a1.code,.int .i64 a1.n,.int .i64 a1.x0,.int .i64 a1.y0,.int .i64 a1.x1,.int .i64 a1.y1,.int .i64 a1.b,.int .i64 a1.l,.string (str a1.key),.slice vA1 0 vcap1],.agg #[.int .i64 a1.code,.int .i64 a1.n,.int .i64 a1.x0,.int .i64 a1.y0,.int .i64 a1.x1,.int .i64 a1.y1,.int .i64 a1.b,.int .i64 a1.l,.string (str a1.key),.slice vA4 0 vcap4]] wx fun e w'=>e= .returned (.bool true)∧Below wx.heap.size wx w'):=fun wx vA4 vcap4 hm=>sameAnswer_true wx a1 vA1 vA4 vcap1 vcap4 HZ1.out.2 hm
     have HSC:Hid (∀wx vA4 vcap4,vcap4≤maxLen→Calls Tryz.prog 27 #[.agg #[.int .i64 a2.code,.int .i64 a2.n,.int .i64 a2.x0,.int .i64 a2.y0,.int .i64 a2.x1,.int .i64 a2.y1,.int .i64 a2.b,.int .i64 a2.l,.string (str a2.key),.slice vA2 0 vcap2],.agg #[.int .i64 a2.code,.int .i64 a2.n,.int .i64 a2.x0,.int .i64 a2.y0,.int .i64 a2.x1,.int .i64 a2.y1,.int .i64 a2.b,.int .i64 a2.l,.string (str a2.key),.slice vA4 0 vcap4]] wx fun e w'=>e= .returned (.bool true)∧Below wx.heap.size wx w'):=fun wx vA4 vcap4 hm=>sameAnswer_true wx a2 vA2 vA4 vcap2 vcap4 HZ2.out.2 hm
     have HDB:Hid (∀wx Rs,LSt W h p 9 77 R3 H3 wv3 kv3 [(b3,57,#[.int .i64 κ,.int .i64 0,.int .i64 0,.int .i64 0,.int .i64 0,.int .i64 0,.int .i64 0,.int .i64 0,.string ⟨#[]⟩,.slice vA3 0 vcap3]),(b2,57,#[.int .i64 a2.code,.int .i64 a2.n,.int .i64 a2.x0,.int .i64 a2.y0,.int .i64 a2.x1,.int .i64 a2.y1,.int .i64 a2.b,.int .i64 a2.l,.string (str a2.key),.slice vA2 0 vcap2]),(b1,57,#[.int .i64 a1.code,.int .i64 a1.n,.int .i64 a1.x0,.int .i64 a1.y0,.int .i64 a1.x1,.int .i64 a1.y1,.int .i64 a1.b,.int .i64 a1.l,.string (str a1.key),.slice vA1 0 vcap1])] Rs [] wx→Calls Tryz.prog 25 #[.pointer (some ⟨h,0,none⟩),.agg #[.int .i64 6,.string ⟨#[97,98]⟩,.string ⟨#[]⟩,.int .i64 0,.int .i64 0,.int .i64 0,.slice none 0 0]] wx (DoL W h p 9 77 R3 H3 wv3 kv3 [(b3,57,#[.int .i64 κ,.int .i64 0,.int .i64 0,.int .i64 0,.int .i64 0,.int .i64 0,.int .i64 0,.int .i64 0,.string ⟨#[]⟩,.slice vA3 0 vcap3]),(b2,57,#[.int .i64 a2.code,.int .i64 a2.n,.int .i64 a2.x0,.int .i64 a2.y0,.int .i64 a2.x1,.int .i64 a2.y1,.int .i64 a2.b,.int .i64 a2.l,.string (str a2.key),.slice vA2 0 vcap2]),(b1,57,#[.int .i64 a1.code,.int .i64 a1.n,.int .i64 a1.x0,.int .i64 a1.y0,.int .i64 a1.x1,.int .i64 a1.y1,.int .i64 a1.b,.int .i64 a1.l,.string (str a1.key),.slice vA1 0 vcap1])] Rs [] ⟨6,[97,98],[],0,0,0,[]⟩ wx)):=fun wx Rs hl=>hl.do_nil ⟨6,[97,98],[],0,0,0,[]⟩ (by show (2:Nat)≤_;decide) (by show (0:Nat)≤_;decide) rfl (by show _≤(0:Int)∧(0:Int)≤_;decide) (fun h=>absurd h (by decide)) (fun h=>absurd h (by decide))
     have HDC:Hid (∀wx Rs R4 H4 wv4 kv4,LSt W h p 9 77 R4 H4 wv4 kv4 [(b3,57,#[.int .i64 κ,.int .i64 0,.int .i64 0,.int .i64 0,.int .i64 0,.int .i64 0,.int .i64 0,.int .i64 0,.string ⟨#[]⟩,.slice vA3 0 vcap3]),(b2,57,#[.int .i64 a2.code,.int .i64 a2.n,.int .i64 a2.x0,.int .i64 a2.y0,.int .i64 a2.x1,.int .i64 a2.y1,.int .i64 a2.b,.int .i64 a2.l,.string (str a2.key),.slice vA2 0 vcap2]),(b1,57,#[.int .i64 a1.code,.int .i64 a1.n,.int .i64 a1.x0,.int .i64 a1.y0,.int .i64 a1.x1,.int .i64 a1.y1,.int .i64 a1.b,.int .i64 a1.l,.string (str a1.key),.slice vA1 0 vcap1])] Rs [] wx→Calls Tryz.prog 25 #[.pointer (some ⟨h,0,none⟩),.agg #[.int .i64 5,.string ⟨#[97,98]⟩,.string ⟨#[]⟩,.int .i64 0,.int .i64 0,.int .i64 0,.slice none 0 0]] wx (DoL W h p 9 77 R4 H4 wv4 kv4 [(b3,57,#[.int .i64 κ,.int .i64 0,.int .i64 0,.int .i64 0,.int .i64 0,.int .i64 0,.int .i64 0,.int .i64 0,.string ⟨#[]⟩,.slice vA3 0 vcap3]),(b2,57,#[.int .i64 a2.code,.int .i64 a2.n,.int .i64 a2.x0,.int .i64 a2.y0,.int .i64 a2.x1,.int .i64 a2.y1,.int .i64 a2.b,.int .i64 a2.l,.string (str a2.key),.slice vA2 0 vcap2]),(b1,57,#[.int .i64 a1.code,.int .i64 a1.n,.int .i64 a1.x0,.int .i64 a1.y0,.int .i64 a1.x1,.int .i64 a1.y1,.int .i64 a1.b,.int .i64 a1.l,.string (str a1.key),.slice vA1 0 vcap1])] Rs [] ⟨5,[97,98],[],0,0,0,[]⟩ wx)):=fun wx Rs R4 H4 wv4 kv4 hl=>hl.do_nil ⟨5,[97,98],[],0,0,0,[]⟩ (by show (2:Nat)≤_;decide) (by show (0:Nat)≤_;decide) rfl (by show _≤(0:Int)∧(0:Int)≤_;decide) (fun h=>absurd h (by decide)) (fun h=>absurd h (by decide))
     go_region_held3 (fun w'=>w'.cell? ⟨b3,0,none⟩=some (.int .i64 κ)∧w'.cell? ⟨b3,1,none⟩=some (.int .i64 0)∧w'.cell? ⟨b3,2,none⟩=some (.int .i64 0)∧w'.cell? ⟨b3,3,none⟩=some (.int .i64 0)∧w'.cell? ⟨b3,4,none⟩=some (.int .i64 0)∧w'.cell? ⟨b3,5,none⟩=some (.int .i64 0)∧w'.cell? ⟨b3,6,none⟩=some (.int .i64 0)∧w'.cell? ⟨b3,7,none⟩=some (.int .i64 0)∧w'.cell? ⟨b3,8,none⟩=some (.string ⟨#[]⟩)∧w'.cell? ⟨b3,9,none⟩=some (.slice vA3 0 vcap3)∧w'.cell? ⟨b2,0,none⟩=some (.int .i64 a2.code)∧w'.cell? ⟨b2,1,none⟩=some (.int .i64 a2.n)∧w'.cell? ⟨b2,2,none⟩=some (.int .i64 a2.x0)∧w'.cell? ⟨b2,3,none⟩=some (.int .i64 a2.y0)∧w'.cell? ⟨b2,4,none⟩=some (.int .i64 a2.x1)∧w'.cell? ⟨b2,5,none⟩=some (.int .i64 a2.y1)∧w'.cell? ⟨b2,6,none⟩=some (.int .i64 a2.b)∧w'.cell? ⟨b2,7,none⟩=some (.int .i64 a2.l)∧w'.cell? ⟨b2,8,none⟩=some (.string (str a2.key))∧w'.cell? ⟨b2,9,none⟩=some (.slice vA2 0 vcap2)∧w'.cell? ⟨b1,0,none⟩=some (.int .i64 a1.code)∧w'.cell? ⟨b1,1,none⟩=some (.int .i64 a1.n)∧w'.cell? ⟨b1,2,none⟩=some (.int .i64 a1.x0)∧w'.cell? ⟨b1,3,none⟩=some (.int .i64 a1.y0)∧w'.cell? ⟨b1,4,none⟩=some (.int .i64 a1.x1)∧w'.cell? ⟨b1,5,none⟩=some (.int .i64 a1.y1)∧w'.cell? ⟨b1,6,none⟩=some (.int .i64 a1.b)∧w'.cell? ⟨b1,7,none⟩=some (.int .i64 a1.l)∧w'.cell? ⟨b1,8,none⟩=some (.string (str a1.key))∧w'.cell? ⟨b1,9,none⟩=some (.slice vA1 0 vcap1))
      (first | (with_reducible exact E4) | (with_reducible exact E5) | (with_reducible exact E6) | (with_reducible exact E7) | (with_reducible exact E8) | (with_reducible exact E9) | go_keep)
      ((first
        | (go_at_call 24;(first | (with_reducible refine (HCN.out _ HL4.out.ha.hl.ar.arm).mono ?_) | (with_reducible refine (HCN.out _ HL4.out.ha.hl.ar.arm.drew).mono ?_));rintro e wz ⟨rfl,rfl⟩)
        | (go_at_call 27;(with_reducible refine (HSX.out _).mono ?_);rintro e w5 ⟨rfl,hb5⟩;have HL5:=Lib.hid (show LSt W h p 9 77 R3 H3 wv3 kv3 [(b3,57,#[.int .i64 κ,.int .i64 0,.int .i64 0,.int .i64 0,.int .i64 0,.int .i64 0,.int .i64 0,.int .i64 0,.string ⟨#[]⟩,.slice vA3 0 vcap3]),(b2,57,#[.int .i64 a2.code,.int .i64 a2.n,.int .i64 a2.x0,.int .i64 a2.y0,.int .i64 a2.x1,.int .i64 a2.y1,.int .i64 a2.b,.int .i64 a2.l,.string (str a2.key),.slice vA2 0 vcap2]),(b1,57,#[.int .i64 a1.code,.int .i64 a1.n,.int .i64 a1.x0,.int .i64 a1.y0,.int .i64 a1.x1,.int .i64 a1.y1,.int .i64 a1.b,.int .i64 a1.l,.string (str a1.key),.slice vA1 0 vcap1])] [(.slice vA3 0 vcap3,(An.zero κ).cells)] [] w5 from (by first | exact HL4.out.below hb5 | exact (HL4.out.below (Below.refl _ _).drew).below hb5));have E5:=three HL5.out)
        | (go_at_call 25;(first | (with_reducible refine (HDB.out _ _ HL5.out).mono ?_) | (with_reducible refine (HDB.out _ _ (HL5.out.below (Below.refl _ _).drew)).mono ?_));rintro e w6 ⟨a4,vA4,vn4,vcap4,H4,wv4,kv4,R4,rfl,hd4,hl4,hz4⟩;obtain rfl:=(HRB.out a4 H4 hd4).symm;have HD4:=Lib.hid hd4;have HL6:=Lib.hid hl4;have HZ4:Hid (a1.cells.length=vn4∧vcap4≤maxLen):=(by obtain ⟨A',cap',hv',_,hm'⟩:=(hl4.rd _ List.mem_cons_self).rd.form;injection hv' with _ h1' h2';exact ⟨h1'.symm,by rw [h2'];exact hm'⟩);have hn4:vn4=0:=(by rw [←HZ4.out.1,←HZ1.out.1]);subst hn4;have E6:=three HL6.out;unfold ansV)
        | (go_at_call 27;(with_reducible refine (HSB.out _ _ _ HZ4.out.2).mono ?_);rintro e w7 ⟨rfl,hb7⟩;have HL7:=Lib.hid (show LSt W h p 9 77 R4 H4 wv4 kv4 [(b3,57,#[.int .i64 κ,.int .i64 0,.int .i64 0,.int .i64 0,.int .i64 0,.int .i64 0,.int .i64 0,.int .i64 0,.string ⟨#[]⟩,.slice vA3 0 vcap3]),(b2,57,#[.int .i64 a2.code,.int .i64 a2.n,.int .i64 a2.x0,.int .i64 a2.y0,.int .i64 a2.x1,.int .i64 a2.y1,.int .i64 a2.b,.int .i64 a2.l,.string (str a2.key),.slice vA2 0 vcap2]),(b1,57,#[.int .i64 a1.code,.int .i64 a1.n,.int .i64 a1.x0,.int .i64 a1.y0,.int .i64 a1.x1,.int .i64 a1.y1,.int .i64 a1.b,.int .i64 a1.l,.string (str a1.key),.slice vA1 0 vcap1])] [(.slice vA4 0 vcap4,a1.cells),(.slice vA3 0 vcap3,(An.zero κ).cells)] [] w7 from (by first | exact HL6.out.below hb7 | exact (HL6.out.below (Below.refl _ _).drew).below hb7));have E7:=three HL7.out)
        | (go_at_call 25;(first | (with_reducible refine (HDC.out _ _ _ _ _ _ HL7.out).mono ?_) | (with_reducible refine (HDC.out _ _ _ _ _ _ (HL7.out.below (Below.refl _ _).drew)).mono ?_));rintro e w8 ⟨a5,vA5,vn5,vcap5,H5,wv5,kv5,R5,rfl,hd5,hl5,hz5⟩;obtain rfl:=(HRC.out a5 H4 H5 HD4.out hd5).symm;have HD5:=Lib.hid hd5;have HL8:=Lib.hid hl5;have HZ5:Hid (a2.cells.length=vn5∧vcap5≤maxLen):=(by obtain ⟨A',cap',hv',_,hm'⟩:=(hl5.rd _ List.mem_cons_self).rd.form;injection hv' with _ h1' h2';exact ⟨h1'.symm,by rw [h2'];exact hm'⟩);have hn5:vn5=0:=(by rw [←HZ5.out.1,←HZ2.out.1]);subst hn5;have E8:=three HL8.out;unfold ansV)
        | (go_at_call 27;(with_reducible refine (HSC.out _ _ _ HZ5.out.2).mono ?_);rintro e w9 ⟨rfl,hb9⟩;have HL9:=Lib.hid (show LSt W h p 9 77 R5 H5 wv5 kv5 [(b3,57,#[.int .i64 κ,.int .i64 0,.int .i64 0,.int .i64 0,.int .i64 0,.int .i64 0,.int .i64 0,.int .i64 0,.string ⟨#[]⟩,.slice vA3 0 vcap3]),(b2,57,#[.int .i64 a2.code,.int .i64 a2.n,.int .i64 a2.x0,.int .i64 a2.y0,.int .i64 a2.x1,.int .i64 a2.y1,.int .i64 a2.b,.int .i64 a2.l,.string (str a2.key),.slice vA2 0 vcap2]),(b1,57,#[.int .i64 a1.code,.int .i64 a1.n,.int .i64 a1.x0,.int .i64 a1.y0,.int .i64 a1.x1,.int .i64 a1.y1,.int .i64 a1.b,.int .i64 a1.l,.string (str a1.key),.slice vA1 0 vcap1])] [(.slice vA5 0 vcap5,a2.cells),(.slice vA4 0 vcap4,a1.cells),(.slice vA3 0 vcap3,(An.zero κ).cells)] [] w9 from (by first | exact HL8.out.below hb9 | exact (HL8.out.below (Below.refl _ _).drew).below hb9));have E9:=three HL9.out)))
     go_wp2_with fail
     have HE:Hid (RefRel W h p (i+1) w9):=⟨R5,H5,wv5,kv5,HL9.out.ha,by
      have h3:=HS3.out.ser
      have h4:=(HD4.out.read_still (.inr rfl)).ser
      have h5:=(HD5.out.read_still (.inl rfl)).ser
      have:=HS.out
      omega⟩
     go_roundw
     case rel=>exact ⟨i+1,by go_num,HI1.out,HI2.out,HE.out⟩
     case measure=>simp [intOf];have:=HI2.out;omega
   ·have k2:¬((i:Int)<15):=by omega
    clear h1 h2 hi hi2
    go_wp2_with fail
    have HDQ:Hid (Calls Tryz.prog 25 #[.pointer (some ⟨h,0,none⟩),.agg #[.int .i64 99,.string ⟨#[]⟩,.string ⟨#[]⟩,.int .i64 0,.int .i64 0,.int .i64 0,.slice none 0 0]] wr (DoL W h p 9 77 R0 H0 wv0 kv0 [] [] [] ⟨99,[],[],0,0,0,[]⟩ wr)):=HH.out.lst.do_nil ⟨99,[],[],0,0,0,[]⟩ (by decide) (by decide) rfl (by decide) (fun h=>absurd h (by decide)) (fun h=>absurd h (by decide))
    (with_reducible refine HDQ.out.mono ?_)
    rintro e w6 ⟨a,aA,an,acap,H',wv',kv',R',rfl,hd,hl,hz⟩
    have hn0:a.code≠0:=fun e=>(hd.yes e).none' (by unfold noVerb;decide)
    obtain ⟨_,hF⟩:=hd.why hn0
    have ha4:=(hF.none' (by unfold noVerb;decide)).1
    have HBE:=Lib.hid hl.ha.bel
    clear hd hl hz hn0 hF
    have HRF:=code_field a aA an acap w6
    rw [ha4] at HRF
    unfold ansV
    go_wp2_with fail
    go_ret
    exact ⟨rfl,HBE.out⟩
  ·have k1:¬((i:Int)<(N:Int)):=by omega
   clear h1 hi
   go_wp2_with fail
   have HDQ:Hid (Calls Tryz.prog 25 #[.pointer (some ⟨h,0,none⟩),.agg #[.int .i64 99,.string ⟨#[]⟩,.string ⟨#[]⟩,.int .i64 0,.int .i64 0,.int .i64 0,.slice none 0 0]] wr (DoL W h p 9 77 R0 H0 wv0 kv0 [] [] [] ⟨99,[],[],0,0,0,[]⟩ wr)):=HH.out.lst.do_nil ⟨99,[],[],0,0,0,[]⟩ (by decide) (by decide) rfl (by decide) (fun h=>absurd h (by decide)) (fun h=>absurd h (by decide))
   (with_reducible refine HDQ.out.mono ?_)
   rintro e w6 ⟨a,aA,an,acap,H',wv',kv',R',rfl,hd,hl,hz⟩
   have hn0:a.code≠0:=fun e=>(hd.yes e).none' (by unfold noVerb;decide)
   obtain ⟨_,hF⟩:=hd.why hn0
   have ha4:=(hF.none' (by unfold noVerb;decide)).1
   have HBE:=Lib.hid hl.ha.bel
   clear hd hl hz hn0 hF
   have HRF:=code_field a aA an acap w6
   rw [ha4] at HRF
   unfold ansV
   go_wp2_with fail
   go_ret
   exact ⟨rfl,HBE.out⟩
end Go.Proofs.YthohnjgnpapnoaaGreatDoor
