/- hall: read. -/
import Derived.Test.YthohnjgnpapnoaaGreatDoorR21
import Derived.Test.YthohnjgnpapnoaaGreatDoorR23
import Derived.Test.YthohnjgnpapnoaaGreatDoorR24
import Derived.Deep.RegionLaw
import Derived.Deep.CutBlock
import Derived.Deep.DeepCutAuto
import Derived.Deep.RegionHeld3
set_option linter.unusedVariables false
set_option linter.unusedSimpArgs false
namespace Go.Proofs.YthohnjgnpapnoaaGreatDoor
open Go.RowKit
def ReadA (y:WD) (verb:Int) (x:Int) (a:An):Prop:=
 (verb=3∧((cellsT y.P (y.k+1) (-2^y.k) (-2^y.k)).length≤4096∧x=0∧(∃s,Tid (cellsT y.P (y.k+1) (-2^y.k) (-2^y.k)) s∧a={An.zero 0 with n:=s.length,b:=y.b,l:=y.l,cells:=s})∨4096<(cellsT y.P (y.k+1) (-2^y.k) (-2^y.k)).length∧x=5))∨
 (verb=5∧x=(cntR (rootT y.P y.k)).2∧a={An.zero 0 with n:=(cntR (rootT y.P y.k)).1,b:=y.b,l:=y.l})∨
 (verb=6∧x=0∧(blankT (rootT y.P y.k)=true∧a={An.zero 0 with b:=y.b,l:=y.l}∨blankT (rootT y.P y.k)=false∧a={An.zero 0 with n:=1,b:=y.b,l:=y.l,x0:=bxX0 y.P y.k,y0:=bxY0 y.P y.k,x1:=bxX1 y.P y.k,y1:=bxY1 y.P y.k}))
def ReadF (H:HS) (q:SReq) (x:Int) (H':HS):Prop:=H'=H∧((hfind H.Ws H.K q.name 1).2=x∨(hfind H.Ws H.K q.name 1).2=0∧∃y a,H.Ws[(hfind H.Ws H.K q.name 1).1]? =some y∧ReadA y q.verb x a)
def ReadG (H:HS) (q:SReq) (a:An) (H':HS):Prop:=H'=H∧(hfind H.Ws H.K q.name 1).2=0∧∃y,H.Ws[(hfind H.Ws H.K q.name 1).1]? =some y∧ReadA y q.verb 0 a
theorem try_no' {w w0 wc w':World} {h p t b:Nat} {R R':ArR} {H H':HS} {d x:Int} {wv kv:Value} {F:Int→HS→Prop} {G:An→HS→Prop} {a:An} {vA:Option Addr} {vn vcap:Nat} (hs:Slot w w0 b) (HW:Hl w h p R H.S H.A t d H.Ws wv H.ser H.K kv) (hh:HStep h p R wv kv R' wv kv w0 wc) (hl:Hl wc h p R' H'.S H'.A t d H.Ws wv H.ser H.K kv) (hst:St t H.S H.A H'.S H'.A) (he:H'.Ws=H.Ws∧H'.ser=H.ser∧H'.K=H.K) (hx:x≠0) (hF:F x H') (hm:Mod (fun q=>q=b) wc w'):
 TryP w h p R H t d wv kv F G (.returned (.tuple #[ansV a (.slice vA vn vcap),.int .i64 x])) w':=by
 obtain ⟨k1,k2⟩:=hs.hl HW hh hl hm
 obtain ⟨e1,e2,e3⟩:=he
 exact ⟨a,.slice vA vn vcap,x,H',wv,kv,R',rfl,⟨_,_,_,rfl⟩,by rw [e1,e2,e3];exact k1,k2,hst.toOth,fun _=>⟨hst,e1,rfl,e2,e3,rfl,hF⟩,fun e=>absurd e hx⟩
theorem an_get (b l:Int) (v:Value) (n:Int):((anC {An.zero 0 with b:=b,l:=l} (.slice none 0 0)).setIfInBounds 9 v).setIfInBounds 1 (.int .i64 n)=anC {An.zero 0 with n:=n,b:=b,l:=l} v:=by unfold anC;simp
theorem an_cnt (b l n:Int):(anC {An.zero 0 with b:=b,l:=l} (.slice none 0 0)).setIfInBounds 1 (.int .i64 n)=anC {An.zero 0 with n:=n,b:=b,l:=l} (.slice none 0 0):=by unfold anC;simp
theorem an_box (b l x0 y0 x1 y1:Int):(((((anC {An.zero 0 with b:=b,l:=l} (.slice none 0 0)).setIfInBounds 2 (.int .i64 x0)).setIfInBounds 3 (.int .i64 y0)).setIfInBounds 4 (.int .i64 x1)).setIfInBounds 5 (.int .i64 y1)).setIfInBounds 1 (.int .i64 1)=anC {An.zero 0 with n:=1,b:=b,l:=l,x0:=x0,y0:=y0,x1:=x1,y1:=y1} (.slice none 0 0):=by unfold anC;simp
theorem an_nobox (b l:Int):((((anC {An.zero 0 with b:=b,l:=l} (.slice none 0 0)).setIfInBounds 2 (.int .i64 0)).setIfInBounds 3 (.int .i64 0)).setIfInBounds 4 (.int .i64 0)).setIfInBounds 5 (.int .i64 0)=anC {An.zero 0 with b:=b,l:=l} (.slice none 0 0):=by unfold anC;simp [An.zero]
theorem root_cell {w:World} {Ws:List WD} {i b off cap:Nat} {x:WD} (h:Sl w 137 4 (.slice (some ⟨b,off,none⟩) Ws.length cap) Ws.length (wdsV Ws)) (hx:Ws[i]? =some x):w.cell? ⟨b,off+i*4+1,none⟩=some (.int .i64 x.root):=by
 obtain ⟨b7,off7,cap7,hv7,_,_,_,d1,_,_⟩:=ws_cells h hx
 injection hv7 with hv7 _ hcap7
 injection hv7 with hv7
 injection hv7 with hb7 ho7 _
 subst hb7
 subst ho7
 exact d1
theorem Slot.put {w w0 w2 wc w':World} {h p t ab:Nat} {R R':ArR} {H:HS} {S':ArS} {A':Nat→Abs} {d:Int} {wv kv:Value} (hA:Slot w w2 ab) (HW:Hl w h p R H.S H.A t d H.Ws wv H.ser H.K kv) (h2:HStep h p R wv kv R' wv kv w2 wc) (hl:Hl wc h p R' S' A' t d H.Ws wv H.ser H.K kv) (h0:HStep h p R wv kv R' wv kv w0 wc) (hlo:w0.heap.size≤ab) (hm:Mod (fun q=>q=ab) wc w'):
 Hl w' h p R' S' A' t d H.Ws wv H.ser H.K kv∧HStep h p R wv kv R' wv kv w0 w':=by
 obtain ⟨g1,g2,g3,g4⟩:=hA.far HW h2
 refine ⟨hl.far hm (fun q hq e=>g1 (e▸hq)) (fun e=>g2 e.symm) (fun q hq e=>g3 (e▸hq)) (fun q hq e=>g4 (e▸hq)),?_⟩
 exact ⟨h0.mod.trans hm fun q hq e=>by omega,h0.own,h0.nw,h0.nk⟩
set_option maxRecDepth 100000 in
set_option maxHeartbeats 25600000 in
theorem read_any (w:World) (h p:Nat) (R:ArR) (H:HS) (t:Nat) (d:Int) (wv kv:Value) (HH:Hl w h p R H.S H.A t d H.Ws wv H.ser H.K kv) (q:SReq) (qA:Option Addr) (qn qcap:Nat) (hn:q.name.length≤4294967296) (hv:q.verb=3∨q.verb=5∨q.verb=6):
 Calls Tryz.prog 73 #[.pointer (some ⟨h,0,none⟩),reqV q (.slice qA qn qcap)] w (TryP w h p R H t d wv kv (ReadF H q) (ReadG H q)):=by
 have HL:=Lib.hid HH
 have HFN:=Lib.hid (fun w1 (h1:HlR w1 h p t d H.Ws wv H.ser H.K kv)=>hfind_any w1 h p t d H.Ws wv H.ser H.K kv h1 q.name hn 1)
 have HVB:=Lib.hid hv
 clear HH hv
 unfold reqV
 go_enter Tryz.func73,Tryz.ntmps73
 go_wp2_with fail
 generalize hw0:World.alloc (World.alloc w _) _=w0
 obtain ⟨s1,q0,n0,s0⟩:=slots w q (.slice qA qn qcap) (w0:=w0) hw0
 have HSL:=Lib.hid s1
 have HQ0:=Lib.hid q0
 have HN0:=Lib.hid n0
 have HSQ:=Lib.hid s0
 have HL0:=Lib.hid (HL.out.below s1.bel)
 clear hw0 s1 q0 n0 s0
 (with_reducible refine (HFN.out _ HL0.out.r).mono ?_)
 rintro e w1 ⟨ptr,rfl,hb1,hp0,hp1⟩
 have HL1:=Lib.hid (HL0.out.below hb1)
 have HS1:Hid (HStep h p R wv kv R wv kv w0 w1):=HStep.arena (StepH.of_below hb1)
 have HN1:=Lib.hid (HSL.out.keep HL.out HS1.out HN0.out)
 have HQ1:=Lib.hid (HSQ.out.keep HL.out HS1.out HQ0.out)
 have HB1:=Lib.hid hb1
 have HP0:=Lib.hid hp0
 have HP1:=Lib.hid hp1
 clear hb1 hp0 hp1 HFN
 obtain ⟨x,hx⟩:∃x,x=(hfind H.Ws H.K q.name 1).2:=⟨_,rfl⟩
 rw [←hx]
 have HX:=Lib.hid hx
 clear hx
 by_cases hx0:x=0
 ·subst hx0
  obtain ⟨hil,b,off,cap,hwv,hptr⟩:=HP1.out HX.out.symm
  subst hptr
  subst hwv
  generalize hi:(hfind H.Ws H.K q.name 1).1=i at*
  have HI':=Lib.hid hi
  clear hi
  obtain ⟨y,hy⟩:∃y,H.Ws[i]? =some y:=⟨_,List.getElem?_eq_getElem hil⟩
  have HY:=Lib.hid hy
  have HGY:=Lib.hid (HL1.out.good y (List.mem_of_getElem? hy))
  obtain ⟨b',off',cap',hv',_,_,d0,d1,d2,d3⟩:=ws_cells HL1.out.ws hy
  injection hv' with hv' _ hcap'
  injection hv' with hv'
  injection hv' with hb' ho' _
  subst hb'
  subst ho'
  clear hy hcap'
  have hb2:Below w1.heap.size w1 (w1.alloc (.cells #[.int .i64 0,.int .i64 0,.int .i64 0,.int .i64 0,.int .i64 0,.int .i64 0,.int .i64 y.b,.int .i64 y.l,.string ⟨#[]⟩,.slice none 0 0] 57)):=(Below.refl _ _).alloc (Nat.le_refl _) _
  have HL2:=Lib.hid (HL1.out.below hb2)
  have HS2:=Lib.hid (HS1.out.below hb2)
  have HN2:=Lib.hid (HSL.out.keep HL.out HS2.out HN0.out)
  have HQ2:=Lib.hid (HSQ.out.keep HL.out HS2.out HQ0.out)
  have HA2:Hid (Blk (w1.alloc (.cells #[.int .i64 0,.int .i64 0,.int .i64 0,.int .i64 0,.int .i64 0,.int .i64 0,.int .i64 y.b,.int .i64 y.l,.string ⟨#[]⟩,.slice none 0 0] 57)) w1.heap.size 57 (anC {An.zero 0 with b:=y.b,l:=y.l} (.slice none 0 0))):=Blk.new _ _ _
  have HABL:Hid (w0.heap.size≤w1.heap.size):=HB1.out.size
  have HAS:Hid (Slot w (w1.alloc (.cells #[.int .i64 0,.int .i64 0,.int .i64 0,.int .i64 0,.int .i64 0,.int .i64 0,.int .i64 y.b,.int .i64 y.l,.string ⟨#[]⟩,.slice none 0 0] 57)) w1.heap.size):=⟨HSL.out.bel.trans (HB1.out.mono HSL.out.bel.size) |>.trans (hb2.mono (Nat.le_trans HSL.out.bel.size HB1.out.size)),Nat.le_trans HSL.out.bel.size HB1.out.size,HA2.out.lt⟩
  have q0:(w1.alloc (.cells #[.int .i64 0,.int .i64 0,.int .i64 0,.int .i64 0,.int .i64 0,.int .i64 0,.int .i64 y.b,.int .i64 y.l,.string ⟨#[]⟩,.slice none 0 0] 57)).cell? ⟨w.heap.size,0,none⟩=some (.int .i64 q.verb):=HQ2.out.cellS rfl
  clear hb2
  go_upto_block 0 with fail
  generalize hw2:World.alloc w1 _=w2 at*
  generalize hab:w1.heap.size=ab at*
  have h0:w2.cell? ⟨h,0,none⟩=some (.pointer (some ⟨p,0,none⟩)):=HL2.out.blk.cellS rfl
  have h1:w2.cell? ⟨h,1,none⟩=some (.int .i64 t):=HL2.out.blk.cellS rfl
  clear hw2 hab d0 d1 d2 d3
  have HLO:Hid (w0.heap.size≤ab):=HABL.out
  have hfar:=HAS.out.far HL.out (HStep.refl h p R (.slice (some ⟨b,off,none⟩) H.Ws.length cap) kv w2)
  have NEH:Hid (h≠ab):=fun e=>hfar.2.1 e.symm
  have NEB:Hid (b≠ab):=fun e=>hfar.2.2.1 (by rw [←e];rfl)
  clear hfar
  have h2:=root_cell HL2.out.ws HY.out
  go_cut [7] (fun ev wx=>∃(x:Int) (a:An) (vA:Option Addr) (vn vcap:Nat),ev= .int .i64 x∧ReadA y q.verb x a∧Hl wx h p R H.S H.A t d H.Ws (.slice (some ⟨b,off,none⟩) H.Ws.length cap) H.ser H.K kv∧HStep h p R (.slice (some ⟨b,off,none⟩) H.Ws.length cap) kv R (.slice (some ⟨b,off,none⟩) H.Ws.length cap) kv w0 wx∧Blk wx ab 57 (anC a (.slice vA vn vcap))∧(x=0→a.code=0∧Rd wx wx.heap.size 2 (.slice vA vn vcap) a.cells.length (flat a.cells)∧∀q,sblk (.slice vA vn vcap)=some q→w0.heap.size≤q∧¬Own p R q∧q≠h∧sblk (.slice (some ⟨b,off,none⟩) H.Ws.length cap)≠some q))
  case first=>
   rcases HVB.out with hv | hv | hv<;>have HVQ:=Lib.hid hv
   ·have hv3:(q.verb==3)=true:=by simp [hv]
    clear hv
    have HCL:=Lib.hid (fun W (hW:Ar W p R H.S H.A)=>cells_all W p R H.S H.A hW t HL.out.ht y.P y.k (by have:=HGY.out.k40;omega) y.root HGY.out.has (fun c hc=>HGY.out.ok c.1 c.2 ((mem_cellsT _ _ _ _ c).1 hc).2))
    by_cases hlen:(cellsT y.P (y.k+1) (-2^y.k) (-2^y.k)).length≤4096
    ·have HLEN:=Lib.hid hlen
     clear hlen
     go_wp2_with fail
     go_region_held3 (fun w'=>w'.cell? ⟨h,0,none⟩=some (.pointer (some ⟨p,0,none⟩))∧w'.cell? ⟨h,1,none⟩=some (.int .i64 t)∧w'.cell? ⟨b,off+i*4+1,none⟩=some (.int .i64 y.root))
      (first | (with_reducible exact ⟨h0,h1,h2⟩) | (with_reducible exact ⟨e0,e1,e2⟩) | (with_reducible exact ⟨cell_far NEH.out e0,cell_far NEH.out e1,cell_far NEB.out e2⟩) | (with_reducible exact ⟨cell_far NEH.out (cell_far NEH.out e0),cell_far NEH.out (cell_far NEH.out e1),cell_far NEB.out (cell_far NEB.out e2)⟩) | (with_reducible exact ⟨cell_far NEH.out (cell_far NEH.out (cell_far NEH.out e0)),cell_far NEH.out (cell_far NEH.out (cell_far NEH.out e1)),cell_far NEB.out (cell_far NEB.out (cell_far NEB.out e2))⟩) | (with_reducible exact ⟨cell_far NEH.out (cell_far NEH.out (cell_far NEH.out (cell_far NEH.out e0))),cell_far NEH.out (cell_far NEH.out (cell_far NEH.out (cell_far NEH.out e1))),cell_far NEB.out (cell_far NEB.out (cell_far NEB.out (cell_far NEB.out e2)))⟩) | go_keep)
      ((go_at_call 110;refine (HCL.out _ (by exact HL2.out.ar.below (Below.refl _ _).drew)).mono ?_;intro e w3 hq;obtain ⟨q3,m3,s3,rfl,ht3,hs3,hf3,ha3,hst3⟩:=hq.1 HLEN.out;have HST3:Hid (StepH NoX p R R w2 w3):=(StepH.of_below (Below.refl _ _).drew:StepH NoX p R R w2 w2.drew).trans hst3;have HL3:=Lib.hid (HL2.out.arena ha3 HST3.out HL2.out.good);have HA3:=Lib.hid (HAS.out.keep HL.out (HStep.arena HST3.out) HA2.out);have e0:w3.cell? ⟨h,0,none⟩=some (.pointer (some ⟨p,0,none⟩)):=HL3.out.blk.cellS rfl;have e1:w3.cell? ⟨h,1,none⟩=some (.int .i64 t):=HL3.out.blk.cellS rfl;have e2:=(root_cell HL3.out.ws HY.out);have z9:=HA3.out.cellS (i:=9) rfl;have zf9:=HA3.out.frozen 9;have hA4:=HA3.out.set 9 (.slice q3 m3 m3);have y9:=hA4.cellS (i:=9) rfl;have y1:=hA4.cellS (i:=1) rfl;have yf1:=hA4.frozen 1))
     all_goals (
      have HS3:=Lib.hid hs3
      have HF3:=Lib.hid hf3
      have HT3:=Lib.hid ht3
      clear h0 h1 h2 e0 e1 e2 z9 zf9 hA4 hs3 hf3 ht3 ha3 hst3 hq
      go_wp2_with fail
      go_meet
      have hl3:=HS3.out.rd.pairs.1
      have hm:Mod (fun b=>b=ab) w3 ((w3.setCell ⟨ab,9,none⟩ (.slice q3 m3 m3)).setCell ⟨ab,1,none⟩ (.int .i64 m3)):=((Mod.refl (fun b=>b=ab) w3).set (p:=⟨ab,9,none⟩) (fun _=>rfl) _).set (p:=⟨ab,1,none⟩) (fun _=>rfl) _
      obtain ⟨g1,g2⟩:=HAS.out.put HL.out (HStep.arena HST3.out) HL3.out (HS2.out.trans (HStep.arena HST3.out)) HLO.out hm
      have hbk:=(HA3.out.set 9 (.slice q3 m3 m3)).set 1 (.int .i64 m3)
      rw [an_get,←hl3] at hbk
      have habl:=HA2.out.lt
      refine ⟨0,{An.zero 0 with n:=(s3.length:Int),b:=y.b,l:=y.l,cells:=s3},_,_,_,rfl,.inl ⟨HVQ.out,.inl ⟨HLEN.out,rfl,s3,HT3.out,rfl⟩⟩,g1,g2,(by rw [hl3] at hbk ⊢;exact hbk),fun _=>⟨rfl,(by show Rd _ _ 2 _ s3.length (flat s3);rw [hl3];exact HS3.out.rd.stepX hm fun b hb _ e=>(by have h1:w2.heap.size≤b:=(HF3.out b hb).1;omega)),fun b hb=>?_⟩⟩
      have h1:w2.heap.size≤b:=(HF3.out b hb).1
      have h2:=HL2.out.new h1
      have h3:=HLO.out
      exact ⟨by omega,h2.1,h2.2.1,h2.2.2.1⟩)
    ·have HLEN:=Lib.hid hlen
     clear hlen
     go_wp2_with fail
     go_region_held3 (fun w'=>w'.cell? ⟨h,0,none⟩=some (.pointer (some ⟨p,0,none⟩))∧w'.cell? ⟨h,1,none⟩=some (.int .i64 t)∧w'.cell? ⟨b,off+i*4+1,none⟩=some (.int .i64 y.root))
      (first | (with_reducible exact ⟨h0,h1,h2⟩) | (with_reducible exact ⟨e0,e1,e2⟩) | (with_reducible exact ⟨cell_far NEH.out e0,cell_far NEH.out e1,cell_far NEB.out e2⟩) | (with_reducible exact ⟨cell_far NEH.out (cell_far NEH.out e0),cell_far NEH.out (cell_far NEH.out e1),cell_far NEB.out (cell_far NEB.out e2)⟩) | (with_reducible exact ⟨cell_far NEH.out (cell_far NEH.out (cell_far NEH.out e0)),cell_far NEH.out (cell_far NEH.out (cell_far NEH.out e1)),cell_far NEB.out (cell_far NEB.out (cell_far NEB.out e2))⟩) | (with_reducible exact ⟨cell_far NEH.out (cell_far NEH.out (cell_far NEH.out (cell_far NEH.out e0))),cell_far NEH.out (cell_far NEH.out (cell_far NEH.out (cell_far NEH.out e1))),cell_far NEB.out (cell_far NEB.out (cell_far NEB.out (cell_far NEB.out e2)))⟩) | go_keep)
      ((go_at_call 110;refine (HCL.out _ (by exact HL2.out.ar.below (Below.refl _ _).drew)).mono ?_;intro e w3 hq;obtain ⟨rfl,ha3,hst3⟩:=hq.2 (Nat.lt_of_not_le HLEN.out);have HST3:Hid (StepH NoX p R R w2 w3):=(StepH.of_below (Below.refl _ _).drew:StepH NoX p R R w2 w2.drew).trans hst3;have HL3:=Lib.hid (HL2.out.arena ha3 HST3.out HL2.out.good);have HA3:=Lib.hid (HAS.out.keep HL.out (HStep.arena HST3.out) HA2.out);have e0:w3.cell? ⟨h,0,none⟩=some (.pointer (some ⟨p,0,none⟩)):=HL3.out.blk.cellS rfl;have e1:w3.cell? ⟨h,1,none⟩=some (.int .i64 t):=HL3.out.blk.cellS rfl;have e2:=(root_cell HL3.out.ws HY.out);have z9:=HA3.out.cellS (i:=9) rfl;have zf9:=HA3.out.frozen 9;have hA4:=HA3.out.set 9 (.slice none 0 0);have y9:=hA4.cellS (i:=9) rfl;have y1:=hA4.cellS (i:=1) rfl;have yf1:=hA4.frozen 1))
     all_goals (
      clear h0 h1 h2 e0 e1 e2 z9 zf9 hA4 ha3 hst3 hq
      go_wp2_with fail
      go_meet
      have hm:Mod (fun b=>b=ab) w3 ((w3.setCell ⟨ab,9,none⟩ (.slice none 0 0)).setCell ⟨ab,1,none⟩ (.int .i64 0)):=((Mod.refl (fun b=>b=ab) w3).set (p:=⟨ab,9,none⟩) (fun _=>rfl) _).set (p:=⟨ab,1,none⟩) (fun _=>rfl) _
      obtain ⟨g1,g2⟩:=HAS.out.put HL.out (HStep.arena HST3.out) HL3.out (HS2.out.trans (HStep.arena HST3.out)) HLO.out hm
      have hbk:=(HA3.out.set 9 (.slice none 0 0)).set 1 (.int .i64 0)
      rw [an_get] at hbk
      exact ⟨5,{An.zero 0 with n:=0,b:=y.b,l:=y.l,cells:=[]},_,_,_,rfl,.inl ⟨HVQ.out,.inr ⟨Nat.lt_of_not_le HLEN.out,rfl⟩⟩,g1,g2,hbk,fun e=>absurd e (by decide)⟩)
   ·have hv3:(q.verb==3)=false:=by simp [hv]
    have hv5:(q.verb==5)=true:=by simp [hv]
    clear hv
    have HCL:=Lib.hid (fun W (hW:Ar W p R H.S H.A)=>qcount_any W p R H.S H.A hW t HL.out.ht (rootT y.P y.k) y.root HGY.out.has)
    go_wp2_with fail
    go_region_held3 (fun w'=>w'.cell? ⟨h,0,none⟩=some (.pointer (some ⟨p,0,none⟩))∧w'.cell? ⟨h,1,none⟩=some (.int .i64 t)∧w'.cell? ⟨b,off+i*4+1,none⟩=some (.int .i64 y.root))
     (first | (with_reducible exact ⟨h0,h1,h2⟩) | (with_reducible exact ⟨e0,e1,e2⟩) | (with_reducible exact ⟨cell_far NEH.out e0,cell_far NEH.out e1,cell_far NEB.out e2⟩) | (with_reducible exact ⟨cell_far NEH.out (cell_far NEH.out e0),cell_far NEH.out (cell_far NEH.out e1),cell_far NEB.out (cell_far NEB.out e2)⟩) | (with_reducible exact ⟨cell_far NEH.out (cell_far NEH.out (cell_far NEH.out e0)),cell_far NEH.out (cell_far NEH.out (cell_far NEH.out e1)),cell_far NEB.out (cell_far NEB.out (cell_far NEB.out e2))⟩) | (with_reducible exact ⟨cell_far NEH.out (cell_far NEH.out (cell_far NEH.out (cell_far NEH.out e0))),cell_far NEH.out (cell_far NEH.out (cell_far NEH.out (cell_far NEH.out e1))),cell_far NEB.out (cell_far NEB.out (cell_far NEB.out (cell_far NEB.out e2)))⟩) | go_keep)
     ((go_at_call 111;refine (HCL.out _ (by exact HL2.out.ar.below (Below.refl _ _).drew)).mono ?_;intro e w3 hq;obtain ⟨rfl,ha3,hst3⟩:=hq;have HST3:Hid (StepH NoX p R R w2 w3):=(StepH.of_below (Below.refl _ _).drew:StepH NoX p R R w2 w2.drew).trans hst3;have HL3:=Lib.hid (HL2.out.arena ha3 HST3.out HL2.out.good);have HA3:=Lib.hid (HAS.out.keep HL.out (HStep.arena HST3.out) HA2.out);have e0:w3.cell? ⟨h,0,none⟩=some (.pointer (some ⟨p,0,none⟩)):=HL3.out.blk.cellS rfl;have e1:w3.cell? ⟨h,1,none⟩=some (.int .i64 t):=HL3.out.blk.cellS rfl;have e2:=(root_cell HL3.out.ws HY.out);have z1:=HA3.out.cellS (i:=1) rfl;have zf1:=HA3.out.frozen 1))
    all_goals (
     clear h0 h1 h2 e0 e1 e2 z1 zf1 ha3 hst3
     go_wp2_with fail
     go_meet
     have hm:Mod (fun b=>b=ab) w3 (w3.setCell ⟨ab,1,none⟩ (.int .i64 (cntR (rootT y.P y.k)).1)):=(Mod.refl (fun b=>b=ab) w3).set (p:=⟨ab,1,none⟩) (fun _=>rfl) _
     obtain ⟨g1,g2⟩:=HAS.out.put HL.out (HStep.arena HST3.out) HL3.out (HS2.out.trans (HStep.arena HST3.out)) HLO.out hm
     have hbk:=HA3.out.set 1 (.int .i64 (cntR (rootT y.P y.k)).1)
     rw [an_cnt] at hbk
     exact ⟨(cntR (rootT y.P y.k)).2,{An.zero 0 with n:=(cntR (rootT y.P y.k)).1,b:=y.b,l:=y.l},_,_,_,rfl,.inr (.inl ⟨HVQ.out,rfl,rfl⟩),g1,g2,hbk,fun _=>⟨rfl,rd_none _,new_none⟩⟩)
   ·have hv3:(q.verb==3)=false:=by simp [hv]
    have hv5:(q.verb==5)=false:=by simp [hv]
    have hv6:(q.verb==6)=true:=by simp [hv]
    clear hv
    have HCL:=Lib.hid (fun W (hW:Ar W p R H.S H.A)=>qbox_any W p R H.S H.A hW t HL.out.ht y.P y.k (by have:=HGY.out.k40;omega) y.root HGY.out.has)
    cases hbl:blankT (rootT y.P y.k)
    ·have HBL:=Lib.hid hbl
     clear hbl
     obtain ⟨X0,hX0⟩:∃v,v=bxX0 y.P y.k:=⟨_,rfl⟩
     obtain ⟨Y0,hY0⟩:∃v,v=bxY0 y.P y.k:=⟨_,rfl⟩
     obtain ⟨X1,hX1⟩:∃v,v=bxX1 y.P y.k:=⟨_,rfl⟩
     obtain ⟨Y1,hY1⟩:∃v,v=bxY1 y.P y.k:=⟨_,rfl⟩
     have HXY:=Lib.hid (And.intro hX0 (And.intro hY0 (And.intro hX1 hY1)))
     clear hX0 hY0 hX1 hY1
     go_wp2_with fail
     go_region_held3 (fun w'=>w'.cell? ⟨h,0,none⟩=some (.pointer (some ⟨p,0,none⟩))∧w'.cell? ⟨h,1,none⟩=some (.int .i64 t)∧w'.cell? ⟨b,off+i*4+1,none⟩=some (.int .i64 y.root))
      (first | (with_reducible exact ⟨h0,h1,h2⟩) | (with_reducible exact ⟨e0,e1,e2⟩) | (with_reducible exact ⟨cell_far NEH.out e0,cell_far NEH.out e1,cell_far NEB.out e2⟩) | (with_reducible exact ⟨cell_far NEH.out (cell_far NEH.out e0),cell_far NEH.out (cell_far NEH.out e1),cell_far NEB.out (cell_far NEB.out e2)⟩) | (with_reducible exact ⟨cell_far NEH.out (cell_far NEH.out (cell_far NEH.out e0)),cell_far NEH.out (cell_far NEH.out (cell_far NEH.out e1)),cell_far NEB.out (cell_far NEB.out (cell_far NEB.out e2))⟩) | (with_reducible exact ⟨cell_far NEH.out (cell_far NEH.out (cell_far NEH.out (cell_far NEH.out e0))),cell_far NEH.out (cell_far NEH.out (cell_far NEH.out (cell_far NEH.out e1))),cell_far NEB.out (cell_far NEB.out (cell_far NEB.out (cell_far NEB.out e2)))⟩) | go_keep)
      ((go_at_call 112;refine (HCL.out _ (by exact HL2.out.ar.below (Below.refl _ _).drew)).mono ?_;intro e w3 hq;obtain ⟨hq,ha3,hst3⟩:=hq;obtain ⟨_,rfl⟩:=hq.resolve_left (fun e=>absurd (HBL.out.symm.trans e.1) (by decide));rw [←HXY.out.1,←HXY.out.2.1,←HXY.out.2.2.1,←HXY.out.2.2.2];have HST3:Hid (StepH NoX p R R w2 w3):=(StepH.of_below (Below.refl _ _).drew:StepH NoX p R R w2 w2.drew).trans hst3;have HL3:=Lib.hid (HL2.out.arena ha3 HST3.out HL2.out.good);have HA3:=Lib.hid (HAS.out.keep HL.out (HStep.arena HST3.out) HA2.out);have e0:w3.cell? ⟨h,0,none⟩=some (.pointer (some ⟨p,0,none⟩)):=HL3.out.blk.cellS rfl;have e1:w3.cell? ⟨h,1,none⟩=some (.int .i64 t):=HL3.out.blk.cellS rfl;have e2:=(root_cell HL3.out.ws HY.out);have z2:=HA3.out.cellS (i:=2) rfl;have zf2:=HA3.out.frozen 2;have z3:=HA3.out.cellS (i:=3) rfl;have zf3:=HA3.out.frozen 3;have z4:=HA3.out.cellS (i:=4) rfl;have zf4:=HA3.out.frozen 4;have z5:=HA3.out.cellS (i:=5) rfl;have zf5:=HA3.out.frozen 5;have y0_3:=((HA3.out.set 2 (.int .i64 X0))).cellS (i:=3) rfl;have yf0_3:=((HA3.out.set 2 (.int .i64 X0))).frozen 3;have y0_4:=((HA3.out.set 2 (.int .i64 X0))).cellS (i:=4) rfl;have yf0_4:=((HA3.out.set 2 (.int .i64 X0))).frozen 4;have y0_5:=((HA3.out.set 2 (.int .i64 X0))).cellS (i:=5) rfl;have yf0_5:=((HA3.out.set 2 (.int .i64 X0))).frozen 5;have y1_4:=(((HA3.out.set 2 (.int .i64 X0)).set 3 (.int .i64 Y0))).cellS (i:=4) rfl;have yf1_4:=(((HA3.out.set 2 (.int .i64 X0)).set 3 (.int .i64 Y0))).frozen 4;have y1_5:=(((HA3.out.set 2 (.int .i64 X0)).set 3 (.int .i64 Y0))).cellS (i:=5) rfl;have yf1_5:=(((HA3.out.set 2 (.int .i64 X0)).set 3 (.int .i64 Y0))).frozen 5;have y2_5:=((((HA3.out.set 2 (.int .i64 X0)).set 3 (.int .i64 Y0)).set 4 (.int .i64 X1))).cellS (i:=5) rfl;have yf2_5:=((((HA3.out.set 2 (.int .i64 X0)).set 3 (.int .i64 Y0)).set 4 (.int .i64 X1))).frozen 5;have y3_1:=(((((HA3.out.set 2 (.int .i64 X0)).set 3 (.int .i64 Y0)).set 4 (.int .i64 X1)).set 5 (.int .i64 Y1))).cellS (i:=1) rfl;have yf3_1:=(((((HA3.out.set 2 (.int .i64 X0)).set 3 (.int .i64 Y0)).set 4 (.int .i64 X1)).set 5 (.int .i64 Y1))).frozen 1))
     all_goals (
      clear h0 h1 h2 e0 e1 e2 ha3 hst3 hq
      go_wp2_with fail
      go_meet
      have hm:Mod (fun b=>b=ab) w3 (((((w3.setCell ⟨ab,2,none⟩ (.int .i64 X0)).setCell ⟨ab,3,none⟩ (.int .i64 Y0)).setCell ⟨ab,4,none⟩ (.int .i64 X1)).setCell ⟨ab,5,none⟩ (.int .i64 Y1)).setCell ⟨ab,1,none⟩ (.int .i64 1)):=((((((Mod.refl (fun b=>b=ab) w3).set (p:=⟨ab,2,none⟩) (fun _=>rfl) _).set (p:=⟨ab,3,none⟩) (fun _=>rfl) _).set (p:=⟨ab,4,none⟩) (fun _=>rfl) _).set (p:=⟨ab,5,none⟩) (fun _=>rfl) _).set (p:=⟨ab,1,none⟩) (fun _=>rfl) _)
      obtain ⟨g1,g2⟩:=HAS.out.put HL.out (HStep.arena HST3.out) HL3.out (HS2.out.trans (HStep.arena HST3.out)) HLO.out hm
      have hbk:=(((((HA3.out.set 2 (.int .i64 X0)).set 3 (.int .i64 Y0)).set 4 (.int .i64 X1)).set 5 (.int .i64 Y1)).set 1 (.int .i64 1))
      rw [an_box] at hbk
      exact ⟨0,{An.zero 0 with n:=1,b:=y.b,l:=y.l,x0:=X0,y0:=Y0,x1:=X1,y1:=Y1},_,_,_,rfl,.inr (.inr ⟨HVQ.out,rfl,.inr ⟨HBL.out,by rw [HXY.out.1,HXY.out.2.1,HXY.out.2.2.1,HXY.out.2.2.2]⟩⟩),g1,g2,hbk,fun _=>⟨rfl,rd_none _,new_none⟩⟩)
    ·have HBL:=Lib.hid hbl
     clear hbl
     go_wp2_with fail
     go_region_held3 (fun w'=>w'.cell? ⟨h,0,none⟩=some (.pointer (some ⟨p,0,none⟩))∧w'.cell? ⟨h,1,none⟩=some (.int .i64 t)∧w'.cell? ⟨b,off+i*4+1,none⟩=some (.int .i64 y.root))
      (first | (with_reducible exact ⟨h0,h1,h2⟩) | (with_reducible exact ⟨e0,e1,e2⟩) | (with_reducible exact ⟨cell_far NEH.out e0,cell_far NEH.out e1,cell_far NEB.out e2⟩) | (with_reducible exact ⟨cell_far NEH.out (cell_far NEH.out e0),cell_far NEH.out (cell_far NEH.out e1),cell_far NEB.out (cell_far NEB.out e2)⟩) | (with_reducible exact ⟨cell_far NEH.out (cell_far NEH.out (cell_far NEH.out e0)),cell_far NEH.out (cell_far NEH.out (cell_far NEH.out e1)),cell_far NEB.out (cell_far NEB.out (cell_far NEB.out e2))⟩) | (with_reducible exact ⟨cell_far NEH.out (cell_far NEH.out (cell_far NEH.out (cell_far NEH.out e0))),cell_far NEH.out (cell_far NEH.out (cell_far NEH.out (cell_far NEH.out e1))),cell_far NEB.out (cell_far NEB.out (cell_far NEB.out (cell_far NEB.out e2)))⟩) | go_keep)
      ((go_at_call 112;refine (HCL.out _ (by exact HL2.out.ar.below (Below.refl _ _).drew)).mono ?_;intro e w3 hq;obtain ⟨hq,ha3,hst3⟩:=hq;obtain ⟨_,rfl⟩:=hq.resolve_right (fun e=>absurd (HBL.out.symm.trans e.1) (by decide));have HST3:Hid (StepH NoX p R R w2 w3):=(StepH.of_below (Below.refl _ _).drew:StepH NoX p R R w2 w2.drew).trans hst3;have HL3:=Lib.hid (HL2.out.arena ha3 HST3.out HL2.out.good);have HA3:=Lib.hid (HAS.out.keep HL.out (HStep.arena HST3.out) HA2.out);have e0:w3.cell? ⟨h,0,none⟩=some (.pointer (some ⟨p,0,none⟩)):=HL3.out.blk.cellS rfl;have e1:w3.cell? ⟨h,1,none⟩=some (.int .i64 t):=HL3.out.blk.cellS rfl;have e2:=(root_cell HL3.out.ws HY.out);have z2:=HA3.out.cellS (i:=2) rfl;have zf2:=HA3.out.frozen 2;have z3:=HA3.out.cellS (i:=3) rfl;have zf3:=HA3.out.frozen 3;have z4:=HA3.out.cellS (i:=4) rfl;have zf4:=HA3.out.frozen 4;have z5:=HA3.out.cellS (i:=5) rfl;have zf5:=HA3.out.frozen 5;have y0_3:=((HA3.out.set 2 (.int .i64 0))).cellS (i:=3) rfl;have yf0_3:=((HA3.out.set 2 (.int .i64 0))).frozen 3;have y0_4:=((HA3.out.set 2 (.int .i64 0))).cellS (i:=4) rfl;have yf0_4:=((HA3.out.set 2 (.int .i64 0))).frozen 4;have y0_5:=((HA3.out.set 2 (.int .i64 0))).cellS (i:=5) rfl;have yf0_5:=((HA3.out.set 2 (.int .i64 0))).frozen 5;have y1_4:=(((HA3.out.set 2 (.int .i64 0)).set 3 (.int .i64 0))).cellS (i:=4) rfl;have yf1_4:=(((HA3.out.set 2 (.int .i64 0)).set 3 (.int .i64 0))).frozen 4;have y1_5:=(((HA3.out.set 2 (.int .i64 0)).set 3 (.int .i64 0))).cellS (i:=5) rfl;have yf1_5:=(((HA3.out.set 2 (.int .i64 0)).set 3 (.int .i64 0))).frozen 5;have y2_5:=((((HA3.out.set 2 (.int .i64 0)).set 3 (.int .i64 0)).set 4 (.int .i64 0))).cellS (i:=5) rfl;have yf2_5:=((((HA3.out.set 2 (.int .i64 0)).set 3 (.int .i64 0)).set 4 (.int .i64 0))).frozen 5;have y3_1:=(((((HA3.out.set 2 (.int .i64 0)).set 3 (.int .i64 0)).set 4 (.int .i64 0)).set 5 (.int .i64 0))).cellS (i:=1) rfl;have yf3_1:=(((((HA3.out.set 2 (.int .i64 0)).set 3 (.int .i64 0)).set 4 (.int .i64 0)).set 5 (.int .i64 0))).frozen 1))
     all_goals (
      clear h0 h1 h2 e0 e1 e2 ha3 hst3 hq
      go_wp2_with fail
      go_meet
      have hm:Mod (fun b=>b=ab) w3 ((((w3.setCell ⟨ab,2,none⟩ (.int .i64 0)).setCell ⟨ab,3,none⟩ (.int .i64 0)).setCell ⟨ab,4,none⟩ (.int .i64 0)).setCell ⟨ab,5,none⟩ (.int .i64 0)):=(((((Mod.refl (fun b=>b=ab) w3).set (p:=⟨ab,2,none⟩) (fun _=>rfl) _).set (p:=⟨ab,3,none⟩) (fun _=>rfl) _).set (p:=⟨ab,4,none⟩) (fun _=>rfl) _).set (p:=⟨ab,5,none⟩) (fun _=>rfl) _)
      obtain ⟨g1,g2⟩:=HAS.out.put HL.out (HStep.arena HST3.out) HL3.out (HS2.out.trans (HStep.arena HST3.out)) HLO.out hm
      have hbk:=((((HA3.out.set 2 (.int .i64 0)).set 3 (.int .i64 0)).set 4 (.int .i64 0)).set 5 (.int .i64 0))
      rw [an_nobox] at hbk
      exact ⟨0,{An.zero 0 with b:=y.b,l:=y.l},_,_,_,rfl,.inr (.inr ⟨HVQ.out,rfl,.inl ⟨HBL.out,rfl⟩⟩),g1,g2,(hbk),fun _=>⟨rfl,rd_none _,new_none⟩⟩)
  case rest=>
   obtain ⟨x,a,vA,vn,vcap,rfl,hra,hl3,hs3,hbk,hx⟩:=hcut
   have HN3:=Lib.hid (HSL.out.keep HL.out hs3 HN0.out)
   have HL3:=Lib.hid hl3
   have HS3:=Lib.hid hs3
   have HRA:=Lib.hid hra
   have HXX:=Lib.hid hx
   have c0:wc.cell? ⟨ab,0,none⟩=some (.int .i64 a.code):=hbk.cellS rfl
   have c1:wc.cell? ⟨ab,1,none⟩=some (.int .i64 a.n):=hbk.cellS rfl
   have c2:wc.cell? ⟨ab,2,none⟩=some (.int .i64 a.x0):=hbk.cellS rfl
   have c3:wc.cell? ⟨ab,3,none⟩=some (.int .i64 a.y0):=hbk.cellS rfl
   have c4:wc.cell? ⟨ab,4,none⟩=some (.int .i64 a.x1):=hbk.cellS rfl
   have c5:wc.cell? ⟨ab,5,none⟩=some (.int .i64 a.y1):=hbk.cellS rfl
   have c6:wc.cell? ⟨ab,6,none⟩=some (.int .i64 a.b):=hbk.cellS rfl
   have c7:wc.cell? ⟨ab,7,none⟩=some (.int .i64 a.l):=hbk.cellS rfl
   have c8:wc.cell? ⟨ab,8,none⟩=some (.string (str a.key)):=hbk.cellS rfl
   have c9:wc.cell? ⟨ab,9,none⟩=some (.slice vA vn vcap):=hbk.cellS rfl
   clear hra hl3 hs3 hbk hx h0 h1 h2
   have zb:=HN3.out
   have z0:wc.cell? ⟨w.heap.size+1,0,none⟩=some (.int .i64 0):=zb.cellS rfl
   have z1:wc.cell? ⟨w.heap.size+1,1,none⟩=some (.int .i64 0):=zb.cellS rfl
   have z2:wc.cell? ⟨w.heap.size+1,2,none⟩=some (.int .i64 0):=zb.cellS rfl
   have z3:wc.cell? ⟨w.heap.size+1,3,none⟩=some (.int .i64 0):=zb.cellS rfl
   have z4:wc.cell? ⟨w.heap.size+1,4,none⟩=some (.int .i64 0):=zb.cellS rfl
   have z5:wc.cell? ⟨w.heap.size+1,5,none⟩=some (.int .i64 0):=zb.cellS rfl
   have z6:wc.cell? ⟨w.heap.size+1,6,none⟩=some (.int .i64 0):=zb.cellS rfl
   have z7:wc.cell? ⟨w.heap.size+1,7,none⟩=some (.int .i64 0):=zb.cellS rfl
   have z8:wc.cell? ⟨w.heap.size+1,8,none⟩=some (.string ⟨#[]⟩):=zb.cellS rfl
   have z9:wc.cell? ⟨w.heap.size+1,9,none⟩=some (.slice none 0 0):=zb.cellS rfl
   have zf0:=zb.frozen 0
   have zf1:=zb.frozen 1
   have zf2:=zb.frozen 2
   have zf3:=zb.frozen 3
   have zf4:=zb.frozen 4
   have zf5:=zb.frozen 5
   have zf6:=zb.frozen 6
   have zf7:=zb.frozen 7
   have zf8:=zb.frozen 8
   have zf9:=zb.frozen 9
   go_wp2_with fail
   have hbm:Blk ((((((((((wc.setCell ⟨w.heap.size+1,0,none⟩ (.int .i64 a.code)).setCell ⟨w.heap.size+1,1,none⟩ (.int .i64 a.n)).setCell ⟨w.heap.size+1,2,none⟩ (.int .i64 a.x0)).setCell ⟨w.heap.size+1,3,none⟩ (.int .i64 a.y0)).setCell ⟨w.heap.size+1,4,none⟩ (.int .i64 a.x1)).setCell ⟨w.heap.size+1,5,none⟩ (.int .i64 a.y1)).setCell ⟨w.heap.size+1,6,none⟩ (.int .i64 a.b)).setCell ⟨w.heap.size+1,7,none⟩ (.int .i64 a.l)).setCell ⟨w.heap.size+1,8,none⟩ (.string (str a.key))).setCell ⟨w.heap.size+1,9,none⟩ (.slice vA vn vcap)) (w.heap.size+1) 57 (anC a (.slice vA vn vcap))∧Mod (fun b=>b=w.heap.size+1) wc ((((((((((wc.setCell ⟨w.heap.size+1,0,none⟩ (.int .i64 a.code)).setCell ⟨w.heap.size+1,1,none⟩ (.int .i64 a.n)).setCell ⟨w.heap.size+1,2,none⟩ (.int .i64 a.x0)).setCell ⟨w.heap.size+1,3,none⟩ (.int .i64 a.y0)).setCell ⟨w.heap.size+1,4,none⟩ (.int .i64 a.x1)).setCell ⟨w.heap.size+1,5,none⟩ (.int .i64 a.y1)).setCell ⟨w.heap.size+1,6,none⟩ (.int .i64 a.b)).setCell ⟨w.heap.size+1,7,none⟩ (.int .i64 a.l)).setCell ⟨w.heap.size+1,8,none⟩ (.string (str a.key))).setCell ⟨w.heap.size+1,9,none⟩ (.slice vA vn vcap)):=an_stored HN3.out a (.slice vA vn vcap)
   obtain ⟨hbk,hmd⟩:=hbm
   generalize hWW:World.setCell _ _ _=WW at hbk hmd ⊢
   have k0:WW.cell? ⟨w.heap.size+1,0,none⟩=some (.int .i64 a.code):=hbk.cellS rfl
   have k1:WW.cell? ⟨w.heap.size+1,1,none⟩=some (.int .i64 a.n):=hbk.cellS rfl
   have k2:WW.cell? ⟨w.heap.size+1,2,none⟩=some (.int .i64 a.x0):=hbk.cellS rfl
   have k3:WW.cell? ⟨w.heap.size+1,3,none⟩=some (.int .i64 a.y0):=hbk.cellS rfl
   have k4:WW.cell? ⟨w.heap.size+1,4,none⟩=some (.int .i64 a.x1):=hbk.cellS rfl
   have k5:WW.cell? ⟨w.heap.size+1,5,none⟩=some (.int .i64 a.y1):=hbk.cellS rfl
   have k6:WW.cell? ⟨w.heap.size+1,6,none⟩=some (.int .i64 a.b):=hbk.cellS rfl
   have k7:WW.cell? ⟨w.heap.size+1,7,none⟩=some (.int .i64 a.l):=hbk.cellS rfl
   have k8:WW.cell? ⟨w.heap.size+1,8,none⟩=some (.string (str a.key)):=hbk.cellS rfl
   have k9:WW.cell? ⟨w.heap.size+1,9,none⟩=some (.slice vA vn vcap):=hbk.cellS rfl
   clear hWW hbk
   refine bodyPost_ret (v:= .tuple #[ansV a (.slice vA vn vcap),.int .i64 x]) (by simp [results,Tryz.results73,go_sem,ansV,An.zero,k0,k1,k2,k3,k4,k5,k6,k7,k8,k9,str]) rfl ?_
   skip
   by_cases hx0:x=0
   ·subst hx0
    obtain ⟨g1,g2,g3⟩:=HXX.out rfl
    exact try_ok (H':=H) HSL.out HL.out HS3.out HL3.out (St.refl HL.out.ar.rel t).toOth g1 ⟨rfl,HX.out.symm,y,by rw [HI'.out];exact HY.out,HRA.out⟩ g2 g3 hmd
   ·exact try_no' (H':=H) HSL.out HL.out HS3.out HL3.out (St.refl HL.out.ar.rel t) ⟨rfl,rfl,rfl⟩ hx0 ⟨rfl,.inr ⟨HX.out.symm,y,a,by rw [HI'.out];exact HY.out,HRA.out⟩⟩ hmd
 ·have HX0:=Lib.hid hx0
  have hxb:(x !=0)=true:=by simp [hx0]
  have hxe:(x==0)=false:=beq_eq_false_iff_ne.2 hx0
  have HF:Hid (ReadF H q x H):=⟨rfl,.inl HX.out.symm⟩
  clear hx0
  have zb:=HN1.out
  have z0:w1.cell? ⟨w.heap.size+1,0,none⟩=some (.int .i64 0):=zb.cellS rfl
  have z1:w1.cell? ⟨w.heap.size+1,1,none⟩=some (.int .i64 0):=zb.cellS rfl
  have z2:w1.cell? ⟨w.heap.size+1,2,none⟩=some (.int .i64 0):=zb.cellS rfl
  have z3:w1.cell? ⟨w.heap.size+1,3,none⟩=some (.int .i64 0):=zb.cellS rfl
  have z4:w1.cell? ⟨w.heap.size+1,4,none⟩=some (.int .i64 0):=zb.cellS rfl
  have z5:w1.cell? ⟨w.heap.size+1,5,none⟩=some (.int .i64 0):=zb.cellS rfl
  have z6:w1.cell? ⟨w.heap.size+1,6,none⟩=some (.int .i64 0):=zb.cellS rfl
  have z7:w1.cell? ⟨w.heap.size+1,7,none⟩=some (.int .i64 0):=zb.cellS rfl
  have z8:w1.cell? ⟨w.heap.size+1,8,none⟩=some (.string ⟨#[]⟩):=zb.cellS rfl
  have z9:w1.cell? ⟨w.heap.size+1,9,none⟩=some (.slice none 0 0):=zb.cellS rfl
  have zf0:=zb.frozen 0
  have zf1:=zb.frozen 1
  have zf2:=zb.frozen 2
  have zf3:=zb.frozen 3
  have zf4:=zb.frozen 4
  have zf5:=zb.frozen 5
  have zf6:=zb.frozen 6
  have zf7:=zb.frozen 7
  have zf8:=zb.frozen 8
  have zf9:=zb.frozen 9
  go_wp2_with fail
  obtain ⟨hbk,hmd⟩:=an_refused HN1.out 0
  generalize hWW:World.setCell _ _ _=WW at hbk hmd ⊢
  have k0:WW.cell? ⟨w.heap.size+1,0,none⟩=some (.int .i64 0):=hbk.cellS rfl
  have k1:WW.cell? ⟨w.heap.size+1,1,none⟩=some (.int .i64 0):=hbk.cellS rfl
  have k2:WW.cell? ⟨w.heap.size+1,2,none⟩=some (.int .i64 0):=hbk.cellS rfl
  have k3:WW.cell? ⟨w.heap.size+1,3,none⟩=some (.int .i64 0):=hbk.cellS rfl
  have k4:WW.cell? ⟨w.heap.size+1,4,none⟩=some (.int .i64 0):=hbk.cellS rfl
  have k5:WW.cell? ⟨w.heap.size+1,5,none⟩=some (.int .i64 0):=hbk.cellS rfl
  have k6:WW.cell? ⟨w.heap.size+1,6,none⟩=some (.int .i64 0):=hbk.cellS rfl
  have k7:WW.cell? ⟨w.heap.size+1,7,none⟩=some (.int .i64 0):=hbk.cellS rfl
  have k8:WW.cell? ⟨w.heap.size+1,8,none⟩=some (.string ⟨#[]⟩):=hbk.cellS rfl
  have k9:WW.cell? ⟨w.heap.size+1,9,none⟩=some (.slice none 0 0):=hbk.cellS rfl
  clear hWW hbk
  refine bodyPost_ret (v:= .tuple #[ansV (An.zero 0) (.slice none 0 0),.int .i64 x]) (by simp [results,Tryz.results73,go_sem,ansV,An.zero,k0,k1,k2,k3,k4,k5,k6,k7,k8,k9,str]) rfl ?_
  exact try_no HSL.out HL.out HS1.out HL1.out (St.refl HL.out.ar.rel t) ⟨rfl,rfl,rfl⟩ HX0.out HF.out hmd
end Go.Proofs.YthohnjgnpapnoaaGreatDoor
