/- arena.Mark. · arena.lose. · arena.Undo. · hall: Do. · hall: how the parts of try end. · hall: try passes on what its parts answer. · hall: a universe gets a new square. -/
import Derived.Test.YthohnjgnpapnoaaGreatDoorR5
import Derived.Test.YthohnjgnpapnoaaGreatDoorR20
import Derived.Deep.RegionHeld3
set_option linter.unusedVariables false
set_option linter.unusedSimpArgs false
namespace Go.Proofs.YthohnjgnpapnoaaGreatDoor
open Go.RowKit
set_option maxRecDepth 100000 in
theorem mark_any (w:World) (p:Nat) (R:ArR) (S:ArS) (h:ArM w p R S) (t:Nat) (ht:t<64):
 Calls Tryz.prog 46 #[.pointer (some ⟨p,0,none⟩),.int .i64 t] w fun e w'=>e= .returned (.int .i64 0)∧ArM w' p {R with av:=upd R.av t nilV} {S with added:=upd S.added t []}∧Step p R {R with av:=upd R.av t nilV} w w':=by
 have c1:=h.cAdded ht
 have f1:=h.f (132+t)
 have k4:(t:Int)<64:=by omega
 have H:=Lib.hid h
 clear h
 go_enter Tryz.func46,Tryz.ntmps46
 go_wp2_with fail
 (with_reducible refine (tenant_any w t).mono ?_)
 rintro e wq ⟨rfl,rfl⟩
 rw [decide_eq_true (show 0≤(t:Int)∧(t:Int)<64 by omega)]
 go_wp2_with fail
 go_ret
 exact ⟨rfl,H.out.setAdded ht (l:=[]) (Sl.nil _ _ _) (fun b hb=>by simp [sblk] at hb),Step.added H.out (fun b hb=>by simp [nilV,sblk] at hb)⟩
end Go.Proofs.YthohnjgnpapnoaaGreatDoor
namespace Go.Proofs.YthohnjgnpapnoaaGreatDoor
open Go.RowKit
set_option maxRecDepth 100000 in
set_option maxHeartbeats 3200000 in
theorem lose_any (w:World) (p:Nat) (R:ArR) (S:ArS) (h:ArM w p R S) (t:Nat) (ht:t<64) (i:Nat) (hi:i<S.ents.length) (hcn: -4000000≤S.count t∧S.count t≤4000000):
 Calls Tryz.prog 80 #[.pointer (some ⟨p,0,none⟩),.int .i64 t,.int .i64 i] w fun e w'=>e= .returned (.tuple #[])∧ArM w' p R (loseS S t i)∧Step p R R w w':=by
 obtain ⟨b,off,cap,hlv,hc1,hc2,hc,hfr⟩:=h.ents (by omega)
 obtain ⟨e,he⟩:∃e,S.ents[i]? =some e:=⟨S.ents[i]'hi,List.getElem?_eq_getElem _⟩
 have c0:=h.cList
 rw [hlv] at c0
 have c1:=h.cCount ht
 have f1:=h.f (4+t)
 have c2:w.cell? ⟨b,off+i*8+7,none⟩=some (.int .u64 (e.mask:Int)):=hc i e 7 _ he rfl
 have f2:=hfr (off+i*8+7)
 have hbit:=bit_test e.mask t (h.masks e (List.mem_of_getElem? he))
 have HMS:=Lib.hid (h.masks e (List.mem_of_getElem? he))
 have H:=Lib.hid h
 have HLV:=Lib.hid hlv
 have HE:=Lib.hid he
 have k4:(t:Int)<64:=by omega
 have hil:(i:Int)<(S.ents.length:Int):=by omega
 clear h hc hlv hfr
 generalize hL:S.ents.length=n at*
 have HL:=Lib.hid hL
 clear hL he
 go_enter Tryz.func80,Tryz.ntmps80
 by_cases hb:e.mask.testBit t=true
 ·rw [hb] at hbit
  go_wp2_with fail
  rw [clr_bits HMS.out ht]
  have HM2:=Lib.hid (H.out.mask (e:=e) (by rw [HL.out];exact HLV.out) HE.out (clrB_lt (t:=t) HMS.out))
  have HS2:=Lib.hid (Step.set H.out (q:=⟨b,off+i*8+7,none⟩) (Own.list HLV.out) (.int .u64 (clrB e.mask t:Nat)))
  generalize World.setCell w _ _=w2 at HM2 HS2 ⊢
  have c3:w2.cell? ⟨p,4+t,none⟩=some (.int .i64 (S.count t)):=HM2.out.cCount ht
  have f3:=HM2.out.f (4+t)
  have hwc:IntKind.i64.wrap (S.count t-1)=S.count t-1:=by rw [IntKind.wrap_i64];omega
  clear c0 c1 c2 f1 f2
  go_region
  go_wp2
  go_end0
  have hl:loseS S t i={S with ents:=S.ents.set i {e with mask:=clrB e.mask t},count:=upd S.count t (S.count t-1)}:=by
   unfold loseS;rw [HE.out];simp only [hb,if_true]
  rw [hl]
  refine ⟨rfl,(HM2.out.put (arCells_count R _ ht (S.count t-1)) rfl rfl rfl rfl rfl).drew,?_⟩
  exact (HS2.out.trans (Step.set HM2.out (q:=⟨p,4+t,none⟩) (.inl rfl) _)).drew
 ·rw [Bool.not_eq_true] at hb
  rw [hb] at hbit
  go_wp2_with fail
  go_end0
  have hl:loseS S t i=S:=by
   unfold loseS;rw [HE.out];simp [hb]
  rw [hl]
  exact ⟨rfl,H.out,Step.refl _ _ _⟩
end Go.Proofs.YthohnjgnpapnoaaGreatDoor
namespace Go.Proofs.YthohnjgnpapnoaaGreatDoor
open Go.RowKit
set_option maxRecDepth 100000 in
set_option maxHeartbeats 3200000 in
theorem undo_any (w:World) (p:Nat) (R:ArR) (S:ArS) (h:ArM w p R S) (hI:Inv S) (t:Nat) (ht:t<64):
 Calls Tryz.prog 48 #[.pointer (some ⟨p,0,none⟩),.int .i64 t] w fun e w'=>e= .returned (.int .i64 (S.count t-(undoS S t).count t))∧ArM w' p {R with av:=upd R.av t nilV} (undoS S t)∧Step p R {R with av:=upd R.av t nilV} w w':=by
 have c0:=h.cCount ht
 have c1:=h.cAdded ht
 have k4:(t:Int)<64:=by omega
 have H:=Lib.hid h
 have HI:=Lib.hid hI
 obtain ⟨A,cap,hav,hc1,hc2⟩:=(h.added t ht).form
 rw [hav] at c1
 generalize hn:(S.added t).length=n at*
 have HN:=Lib.hid hn
 have HAV:=Lib.hid hav
 clear h hI hn hav
 go_enter Tryz.func48,Tryz.ntmps48
 go_wp2_with fail
 (with_reducible refine (tenant_any w t).mono ?_)
 rintro e wq ⟨rfl,rfl⟩
 rw [decide_eq_true (show 0≤(t:Int)∧(t:Int)<64 by omega)]
 go_wp2_with fail
 clear c0 c1
 go_loopw [28] (fun iv wx=>∃i:Nat,iv= .int .i64 i∧i≤n∧ArM wx p R (loseL S t ((S.added t).take i))∧Step p R R w wx) (fun iv _=>n-(intOf iv).toNat)
 case atStart=>exact ⟨0,rfl,Nat.zero_le _,H.out,Step.refl _ _ _⟩
 case round=>
  obtain ⟨i,rfl,hi,hA,hst⟩:=hrel
  have hIi:=loseL_inv ht ((S.added t).take i) S HI.out
  have hcn:=hIi.cnt_le ht
  have hkp:=loseL_keeps t ((S.added t).take i) S
  have HA:=Lib.hid hA
  have HST:=Lib.hid hst
  have HKP:=Lib.hid hkp
  by_cases hin:i<n
  ·obtain ⟨x,hx⟩:∃x,(S.added t)[i]? =some x:=⟨(S.added t)[i]'(by rw [HN.out];exact hin),List.getElem?_eq_getElem _⟩
   obtain ⟨k,rfl,hk2,hk3⟩:=HI.out.added t ht x (List.mem_of_getElem? hx)
   have hsl:=hA.added t ht
   rw [hkp.1,HN.out,HAV.out] at hsl
   obtain ⟨b,off,cap',hA',_,_,hbB,hc,_⟩:=hsl.at (by omega)
   injection hA' with hA' _ hcap;subst hA';subst hcap
   have c2:wr.cell? ⟨b,off+i,none⟩=some (.int .i64 k):=hc i _ (intsV_at hx)
   have hwi:=wrap_nat' i (by omega)
   have hlt:(i:Int)<(n:Int):=by omega
   have HX:=Lib.hid hx
   have HIN:=Lib.hid hin
   clear hc hA hst hkp hIi hx hin hsl hi
   go_wp2_with fail
   (with_reducible refine (lose_any wr p R _ HA.out t ht k (by rw [HKP.out.2.1];exact hk3) (by omega)).mono ?_)
   rintro e w2 ⟨rfl,hm2,hs2⟩
   have HM2:Hid (ArM w2 p R (loseL S t ((S.added t).take (i+1)))):=by
    show ArM w2 p R _
    rw [loseL_take HX.out];exact hm2
   have HS2:Hid (Step p R R w w2):=HST.out.trans hs2
   clear hm2 hs2
   go_wp2_with fail
   go_roundw
   case rel=>exact ⟨i+1,by go_num,HIN.out,HM2.out,HS2.out⟩
   case measure=>simp [intOf];have:=HIN.out;omega
  ·have hge:(n:Int)≤(i:Int):=by omega
   have hin':i=n:=by omega
   have hfull:(S.added t).take i=S.added t:=by rw [hin',←HN.out,List.take_length]
   rw [hfull] at HA
   have c1:=HA.out.cCount ht
   have f1:=HA.out.f (132+t)
   have c2:=HA.out.cAdded ht
   have hcn':=(loseL_inv ht (S.added t) S HI.out).cnt_le ht
   have hc0:=HI.out.cnt_le ht
   have hwr:IntKind.i64.wrap (S.count t-(loseL S t (S.added t)).count t)=S.count t-(loseL S t (S.added t)).count t:=by rw [IntKind.wrap_i64];omega
   have HQ:=Lib.hid (HA.out.setAdded ht (l:=[]) (v:=nilV) (Sl.nil _ _ _) (fun b hb=>by simp [nilV,sblk] at hb))
   have HR:=Lib.hid (HST.out.trans (Step.added HA.out (t:=t) (v:=nilV) (fun b hb=>by simp [nilV,sblk] at hb)))
   have c3:(wr.setCell ⟨p,132+t,none⟩ (.slice none 0 0)).cell? ⟨p,4+t,none⟩=some (.int .i64 ((loseL S t (S.added t)).count t)):=HQ.out.cCount ht
   clear hA hst hkp hIi hi hcn hcn' hc0
   go_wp2_with fail
   go_ret
   refine ⟨rfl,?_,HR.out⟩
   have:=HQ.out
   rw [(loseL_keeps t (S.added t) S).1] at this
   exact this
end Go.Proofs.YthohnjgnpapnoaaGreatDoor
namespace Go.Proofs.YthohnjgnpapnoaaGreatDoor
open Go.RowKit
section
variable {t : Nat} {S S' : ArS} {A A' : Nat → Abs}
theorem mark_oth (h:Rel S A) (ht:t<64):Oth t S A (markS S t) (markA A t):=
 ⟨fun _ hu=>upd_ne _ _ hu,fun _ _ _ _ _ _ hd=>(h.mark ht).2.den.2 hd,rfl,rfl⟩
theorem has_mark {id:Int} {T:Tree} (h:Rel S A) (ht:t<64) (hh:Has S A t id T):Has (markS S t) (markA A t) t id T:=
 ⟨(h.mark ht).2.den.2 hh.1,by unfold markA;rw [upd_same];exact hh.2⟩
theorem undo_have (h:St t (markS S t) (markA A t) S' A'):∀x,x∈(undoA A' t t).have_↔x∈(A t).have_:=fun x=>by
 have b1:=h.mono x
 have b2:=h.new x
 unfold markA at b1 b2
 rw [upd_same] at b1 b2
 simp only [List.not_mem_nil,false_or] at b1 b2
 unfold undoA
 rw [upd_same]
 show x∈restL (A' t)↔_
 unfold restL
 rw [List.mem_filter]
 constructor
 ·rintro ⟨g1,g2⟩
  by_cases e:x∈(A t).have_
  ·exact e
  ·have:=b2.2 ⟨g1,e⟩
   simp [this] at g2
 ·intro g
  refine ⟨b1 g,?_⟩
  have:x∉(A' t).added:=fun q=>(b2.1 q).2 g
  simp [this]
theorem undo_oth (h:Rel S A) (ht:t<64):Oth t S A (undoS S t) (undoA A t):=
 ⟨fun _ hu=>upd_ne _ _ hu,fun _ _ _ _ _ _ hd=>(h.undo ht).2.den.2 hd,(loseL_less t _ S).quota,(loseL_less t _ S).room⟩
end
theorem Step.hst {h p:Nat} {R R':ArR} {w w':World} {wv kv:Value} (hs:Step p R R' w w'):HStep h p R wv kv R' wv kv w w':=HStep.arena (hs.toH NoX)
theorem HStep.bel {w0 w w':World} {h p:Nat} {R R':ArR} {wv kv wv' kv':Value} (hb:Below w.heap.size w w0) (hs:HStep h p R wv kv R' wv' kv' w0 w'):HStep h p R wv kv R' wv' kv' w w':=
 (HStep.arena (StepH.of_below hb)).trans hs
theorem an_fill (z a:An) (zv v:Value):(((((((((((anC z zv).setIfInBounds 0 (.int .i64 a.code)).setIfInBounds 1 (.int .i64 a.n)).setIfInBounds 2 (.int .i64 a.x0)).setIfInBounds 3 (.int .i64 a.y0)).setIfInBounds 4 (.int .i64 a.x1)).setIfInBounds 5 (.int .i64 a.y1)).setIfInBounds 6 (.int .i64 a.b)).setIfInBounds 7 (.int .i64 a.l)).setIfInBounds 8 (.string (str a.key))).setIfInBounds 9 (v))=anC a v:=by unfold anC;simp
theorem an_stored {W:World} {b:Nat} {z:An} {zv:Value} (h:Blk W b 57 (anC z zv)) (a:An) (v:Value):Blk ((((((((((W.setCell ⟨b,0,none⟩ (.int .i64 a.code)).setCell ⟨b,1,none⟩ (.int .i64 a.n)).setCell ⟨b,2,none⟩ (.int .i64 a.x0)).setCell ⟨b,3,none⟩ (.int .i64 a.y0)).setCell ⟨b,4,none⟩ (.int .i64 a.x1)).setCell ⟨b,5,none⟩ (.int .i64 a.y1)).setCell ⟨b,6,none⟩ (.int .i64 a.b)).setCell ⟨b,7,none⟩ (.int .i64 a.l)).setCell ⟨b,8,none⟩ (.string (str a.key))).setCell ⟨b,9,none⟩ (v)) b 57 (anC a v)∧Mod (fun q=>q=b) W ((((((((((W.setCell ⟨b,0,none⟩ (.int .i64 a.code)).setCell ⟨b,1,none⟩ (.int .i64 a.n)).setCell ⟨b,2,none⟩ (.int .i64 a.x0)).setCell ⟨b,3,none⟩ (.int .i64 a.y0)).setCell ⟨b,4,none⟩ (.int .i64 a.x1)).setCell ⟨b,5,none⟩ (.int .i64 a.y1)).setCell ⟨b,6,none⟩ (.int .i64 a.b)).setCell ⟨b,7,none⟩ (.int .i64 a.l)).setCell ⟨b,8,none⟩ (.string (str a.key))).setCell ⟨b,9,none⟩ (v)):=by
 refine ⟨?_,(((((((((((Mod.refl (fun q=>q=b) W).set (p:=⟨b,0,none⟩) (fun _=>rfl) (.int .i64 a.code)).set (p:=⟨b,1,none⟩) (fun _=>rfl) (.int .i64 a.n)).set (p:=⟨b,2,none⟩) (fun _=>rfl) (.int .i64 a.x0)).set (p:=⟨b,3,none⟩) (fun _=>rfl) (.int .i64 a.y0)).set (p:=⟨b,4,none⟩) (fun _=>rfl) (.int .i64 a.x1)).set (p:=⟨b,5,none⟩) (fun _=>rfl) (.int .i64 a.y1)).set (p:=⟨b,6,none⟩) (fun _=>rfl) (.int .i64 a.b)).set (p:=⟨b,7,none⟩) (fun _=>rfl) (.int .i64 a.l)).set (p:=⟨b,8,none⟩) (fun _=>rfl) (.string (str a.key))).set (p:=⟨b,9,none⟩) (fun _=>rfl) (v))⟩
 rw [←an_fill z a zv v]
 exact ((((((((((h.set 0 (.int .i64 a.code)).set 1 (.int .i64 a.n)).set 2 (.int .i64 a.x0)).set 3 (.int .i64 a.y0)).set 4 (.int .i64 a.x1)).set 5 (.int .i64 a.y1)).set 6 (.int .i64 a.b)).set 7 (.int .i64 a.l)).set 8 (.string (str a.key))).set 9 (v))
theorem an_refused {W:World} {b:Nat} {z:An} {zv:Value} (h:Blk W b 57 (anC z zv)) (x:Int):Blk ((((((((((W.setCell ⟨b,0,none⟩ (.int .i64 x)).setCell ⟨b,1,none⟩ (.int .i64 0)).setCell ⟨b,2,none⟩ (.int .i64 0)).setCell ⟨b,3,none⟩ (.int .i64 0)).setCell ⟨b,4,none⟩ (.int .i64 0)).setCell ⟨b,5,none⟩ (.int .i64 0)).setCell ⟨b,6,none⟩ (.int .i64 0)).setCell ⟨b,7,none⟩ (.int .i64 0)).setCell ⟨b,8,none⟩ (.string ⟨#[]⟩)).setCell ⟨b,9,none⟩ (.slice none 0 0)) b 57 (anC (An.zero x) (.slice none 0 0))∧Mod (fun q=>q=b) W ((((((((((W.setCell ⟨b,0,none⟩ (.int .i64 x)).setCell ⟨b,1,none⟩ (.int .i64 0)).setCell ⟨b,2,none⟩ (.int .i64 0)).setCell ⟨b,3,none⟩ (.int .i64 0)).setCell ⟨b,4,none⟩ (.int .i64 0)).setCell ⟨b,5,none⟩ (.int .i64 0)).setCell ⟨b,6,none⟩ (.int .i64 0)).setCell ⟨b,7,none⟩ (.int .i64 0)).setCell ⟨b,8,none⟩ (.string ⟨#[]⟩)).setCell ⟨b,9,none⟩ (.slice none 0 0)):=an_stored h (An.zero x) (.slice none 0 0)
def qC (q:SReq) (v:Value):Array Value:=#[.int .i64 q.verb,.string (str q.name),.string (str q.other),.int .i64 q.b,.int .i64 q.l,.int .i64 q.n,v]
set_option maxRecDepth 100000 in
set_option maxHeartbeats 3200000 in
theorem do_any (w:World) (h p:Nat) (R:ArR) (H:HS) (t:Nat) (d:Int) (wv kv:Value) (HH:Hl w h p R H.S H.A t d H.Ws wv H.ser H.K kv) (q:SReq) (qv:Value) (F:Int→HS→Prop) (G:An→HS→Prop)
 (htry:∀w1 R1,Hl w1 h p R1 (markS H.S t) (markA H.A t) t d H.Ws wv H.ser H.K kv→HStep h p R wv kv R1 wv kv w w1→Calls Tryz.prog 47 #[.pointer (some ⟨h,0,none⟩),reqV q qv] w1 (TryP w1 h p R1 (markH H t) t d wv kv F G)):
 Calls Tryz.prog 25 #[.pointer (some ⟨h,0,none⟩),reqV q qv] w (DoP w h p R H t d wv kv F G):=by
 have HL:=Lib.hid HH
 have ht:=HH.ht
 have HT:=Lib.hid ht
 have HMK:=Lib.hid (fun w2 (h2:ArM w2 p R H.S)=>mark_any w2 p R H.S h2 t ht)
 have HTRY:=Lib.hid htry
 have HRD:Hid (∀w1 R1,HStep h p R wv kv R1 wv kv w w1→w.heap.size≤w1.heap.size):=fun _ _ h=>h.mod.size
 clear HH htry ht
 unfold reqV at HTRY ⊢
 go_enter Tryz.func25,Tryz.ntmps25
 go_wp2_with fail
 generalize hw0:World.alloc (World.alloc w _) _=w0
 have HB0:Hid (Below w.heap.size w w0):=by subst hw0;exact ((Below.refl _ _).alloc (Nat.le_refl _) _).alloc (by simp) _
 have HQ0:Hid (Blk w0 w.heap.size 60 (qC q qv)):=by subst hw0;exact (Blk.new w _ _).alloc _
 have HN0:Hid (Blk w0 (w.heap.size+1) 57 (anC (An.zero 0) (.slice none 0 0))):=by
  subst hw0
  have:=Blk.new (w.alloc (.cells (qC q qv) 60)) 57 (anC (An.zero 0) (.slice none 0 0))
  rw [World.size_alloc] at this
  exact this
 have HL0:=Lib.hid (HL.out.below HB0.out)
 have c0:w0.cell? ⟨h,0,none⟩=some (.pointer (some ⟨p,0,none⟩)):=HL0.out.blk.cellS rfl
 have c1:w0.cell? ⟨h,1,none⟩=some (.int .i64 t):=HL0.out.blk.cellS rfl
 have HLT:=Lib.hid HL0.out.blk.lt
 clear hw0
 go_region_held3 (fun w'=>w'.cell? ⟨h,0,none⟩=some (.pointer (some ⟨p,0,none⟩))∧w'.cell? ⟨h,1,none⟩=some (.int .i64 t))
  (first | (with_reducible exact ⟨c0,c1⟩) | (with_reducible exact ⟨e0,e1⟩) | go_keep)
  ((go_at_call 46;refine (HMK.out _ (by exact HL0.out.ar.arm.drew)).mono ?_;rintro e w1 ⟨rfl,ha1,hs1⟩;have e0:=(hs1.mod.cell (a:=⟨h,0,none⟩) HLT.out HL0.out.no).trans c0;have e1:=(hs1.mod.cell (a:=⟨h,1,none⟩) HLT.out HL0.out.no).trans c1))
 have hs1':Step p R {R with av:=upd R.av t nilV} w0 w1:=(Step.refl p R w0).drew.trans hs1
 clear e0 e1
 have HA1:Hid (Ar w1 p {R with av:=upd R.av t nilV} (markS H.S t) (markA H.A t)):=⟨ha1,(HL.out.ar.rel.mark HT.out).1,markS_add HL.out.ar.rel HL.out.ar.add⟩
 have HL1:Hid (Hl w1 h p {R with av:=upd R.av t nilV} (markS H.S t) (markA H.A t) t d H.Ws wv H.ser H.K kv):=HL0.out.arena HA1.out (hs1'.toH NoX) fun x hx=>by
  have hg:=HL.out.good x hx
  exact ⟨has_mark HL.out.ar.rel HT.out hg.has,hg.k1,hg.k40,hg.supp,hg.ok,hg.rule,hg.named⟩
 have HS1:Hid (HStep h p R wv kv {R with av:=upd R.av t nilV} wv kv w w1):=HStep.bel HB0.out hs1'.hst
 have HQ1:=Lib.hid (HQ0.out.mod hs1'.mod (HL.out.new (Nat.le_refl _)).1)
 have HN1:=Lib.hid (HN0.out.mod hs1'.mod (HL.out.new (Nat.le_succ _)).1)
 have HO1:Hid (∀b,w.heap.size≤b→b<w0.heap.size→¬Own p {R with av:=upd R.av t nilV} b):=fun b hb hlt ho=>by
  rcases hs1'.own b ho with k | k
  ·exact (HL.out.new hb).1 k
  ·omega
 have HZ0:Hid (w.heap.size<w0.heap.size∧w.heap.size+1<w0.heap.size):=⟨HQ0.out.lt,HN0.out.lt⟩
 have HZ1:Hid (w0.heap.size≤w1.heap.size):=hs1'.mod.size
 clear ha1 hs1 hs1' HMK c0 c1 HLT HQ0 HN0 HL0
 generalize ({R with av:=upd R.av t nilV}:ArR)=R1 at*
 have HT1:=Lib.hid (HTRY.out w1 R1 HL1.out HS1.out)
 have q0:w1.cell? ⟨w.heap.size,0,none⟩=some (.int .i64 q.verb):=HQ1.out.cellS rfl
 have q1:w1.cell? ⟨w.heap.size,1,none⟩=some (.string (str q.name)):=HQ1.out.cellS rfl
 have q2:w1.cell? ⟨w.heap.size,2,none⟩=some (.string (str q.other)):=HQ1.out.cellS rfl
 have q3:w1.cell? ⟨w.heap.size,3,none⟩=some (.int .i64 q.b):=HQ1.out.cellS rfl
 have q4:w1.cell? ⟨w.heap.size,4,none⟩=some (.int .i64 q.l):=HQ1.out.cellS rfl
 have q5:w1.cell? ⟨w.heap.size,5,none⟩=some (.int .i64 q.n):=HQ1.out.cellS rfl
 have q6:w1.cell? ⟨w.heap.size,6,none⟩=some qv:=HQ1.out.cellS rfl
 go_wp2_with fail
 (with_reducible refine HT1.out.mono ?_)
 rintro e w2 ⟨a,v,x,H',wv',kv',R2,rfl,⟨vA,vn,vcap,rfl⟩,hl2,hs2,ho2,hbad,hok⟩
 have HO2:=Lib.hid ((mark_oth HL.out.ar.rel HT.out).trans ho2)
 have HS2:=Lib.hid (HS1.out.trans hs2)
 have HN2:Hid (Blk w2 (w.heap.size+1) 57 (anC (An.zero 0) (.slice none 0 0))):=HN1.out.mod hs2.mod fun ho=>by
  rcases ho with ho | ho | ho
  ·exact HO1.out _ (Nat.le_succ _) HZ0.out.2 ho
  ·exact (HL.out.new (Nat.le_succ w.heap.size)).2.1 ho
  ·exact (HL.out.new (Nat.le_succ w.heap.size)).2.2.1 ho
 have HOB:Hid (∀b,w.heap.size≤b→b<w0.heap.size→¬Own p R2 b∧b≠h∧sblk wv'≠some b∧sblk kv'≠some b):=fun b hb hlt=>by
  have hz1:=HB0.out.size
  have hz2:w0.heap.size≤w1.heap.size:=HZ1.out
  refine ⟨fun ho=>?_,(HL.out.new hb).2.1,fun e=>?_,fun e=>?_⟩
  ·rcases hs2.own b ho with k | k
   ·exact HO1.out b hb hlt k
   ·omega
  ·rcases hs2.nw b e with k | k
   ·exact (HL.out.new hb).2.2.1 k
   ·omega
  ·rcases hs2.nk b e with k | k
   ·exact (HL.out.new hb).2.2.2 k
   ·omega
 have hba:Below w2.heap.size w2 (w2.alloc (.cells #[.int .i64 a.code,.int .i64 a.n,.int .i64 a.x0,.int .i64 a.y0,.int .i64 a.x1,.int .i64 a.y1,.int .i64 a.b,.int .i64 a.l,.string (str a.key),.slice vA vn vcap] 57)):=(Below.refl _ _).alloc (Nat.le_refl _) _
 have hn3:Blk (w2.alloc (.cells #[.int .i64 a.code,.int .i64 a.n,.int .i64 a.x0,.int .i64 a.y0,.int .i64 a.x1,.int .i64 a.y1,.int .i64 a.b,.int .i64 a.l,.string (str a.key),.slice vA vn vcap] 57)) (w.heap.size+1) 57 (anC (An.zero 0) (.slice none 0 0)):=HN2.out.alloc _
 have HLA:=Lib.hid (hl2.below hba)
 have HSA:=Lib.hid (HS2.out.below hba)
 have HBA:=Lib.hid hba
 have HNA:=Lib.hid hn3
 have HFAR:Hid (∀(R3:ArR) (S3:ArS) (A3:Nat→Abs) (wx wy:World),Hl wx h p R3 S3 A3 t d H'.Ws wv' H'.ser H'.K kv'→(∀b,Own p R3 b→Own p R2 b∨w2.heap.size≤b)→HStep h p R wv kv R3 wv' kv' w wx→Mod (fun b=>b=w.heap.size+1) wx wy→Hl wy h p R3 S3 A3 t d H'.Ws wv' H'.ser H'.K kv'∧HStep h p R wv kv R3 wv' kv' w wy):=fun R3 S3 A3 wx wy hl ho hs hm=>by
  obtain ⟨g1,g2,g3,g4⟩:=HOB.out (w.heap.size+1) (Nat.le_succ _) HZ0.out.2
  have hz:=HN2.out.lt
  refine ⟨hl.far hm (fun b hb e=>?_) (fun e=>g2 e.symm) (fun b hb e=>g3 (e▸hb)) (fun b hb e=>g4 (e▸hb)),?_⟩
  ·subst e
   rcases ho _ hb with k | k
   ·exact g1 k
   ·omega
  ·exact ⟨hs.mod.trans hm fun b hb e=>by omega,hs.own,hs.nw,hs.nk⟩
 by_cases hx:x=0
 ·subst hx
  obtain ⟨k1,k2,k3,k4⟩:=hok rfl
  have hz1:=HS1.out.mod.size
  have HF:Hid (∀w3,Mod (fun b=>b=w.heap.size+1) (w2.alloc (.cells #[.int .i64 a.code,.int .i64 a.n,.int .i64 a.x0,.int .i64 a.y0,.int .i64 a.x1,.int .i64 a.y1,.int .i64 a.b,.int .i64 a.l,.string (str a.key),.slice vA vn vcap] 57)) w3→DoP w h p R H t d wv kv F G (.returned (ansV a (.slice vA vn vcap))) w3):=fun w3 hm=>⟨a,_,H',wv',kv',R2,rfl,(HFAR.out R2 H'.S H'.A _ w3 HLA.out (fun _ h=> .inl h) HSA.out hm).1,(HFAR.out R2 H'.S H'.A _ w3 HLA.out (fun _ h=> .inl h) HSA.out hm).2,HO2.out,fun e=>absurd k1 e,fun _=>⟨k2,((k3.below HBA.out).more HBA.out.size).stepX hm fun b hb hlt e=>(by
   have:=(k4 b hb).1
   have:=HZ1.out
   have:=HZ0.out
   omega),fun b hb=>by
   obtain ⟨g1,g2⟩:=k4 b hb
   exact ⟨by omega,g2⟩⟩⟩
  have d0:(w2.alloc (.cells #[.int .i64 a.code,.int .i64 a.n,.int .i64 a.x0,.int .i64 a.y0,.int .i64 a.x1,.int .i64 a.y1,.int .i64 a.b,.int .i64 a.l,.string (str a.key),.slice vA vn vcap] 57)).cell? ⟨w.heap.size+1,0,none⟩=some (.int .i64 0):=hn3.cellS rfl
  have d1:(w2.alloc (.cells #[.int .i64 a.code,.int .i64 a.n,.int .i64 a.x0,.int .i64 a.y0,.int .i64 a.x1,.int .i64 a.y1,.int .i64 a.b,.int .i64 a.l,.string (str a.key),.slice vA vn vcap] 57)).cell? ⟨w.heap.size+1,1,none⟩=some (.int .i64 0):=hn3.cellS rfl
  have d2:(w2.alloc (.cells #[.int .i64 a.code,.int .i64 a.n,.int .i64 a.x0,.int .i64 a.y0,.int .i64 a.x1,.int .i64 a.y1,.int .i64 a.b,.int .i64 a.l,.string (str a.key),.slice vA vn vcap] 57)).cell? ⟨w.heap.size+1,2,none⟩=some (.int .i64 0):=hn3.cellS rfl
  have d3:(w2.alloc (.cells #[.int .i64 a.code,.int .i64 a.n,.int .i64 a.x0,.int .i64 a.y0,.int .i64 a.x1,.int .i64 a.y1,.int .i64 a.b,.int .i64 a.l,.string (str a.key),.slice vA vn vcap] 57)).cell? ⟨w.heap.size+1,3,none⟩=some (.int .i64 0):=hn3.cellS rfl
  have d4:(w2.alloc (.cells #[.int .i64 a.code,.int .i64 a.n,.int .i64 a.x0,.int .i64 a.y0,.int .i64 a.x1,.int .i64 a.y1,.int .i64 a.b,.int .i64 a.l,.string (str a.key),.slice vA vn vcap] 57)).cell? ⟨w.heap.size+1,4,none⟩=some (.int .i64 0):=hn3.cellS rfl
  have d5:(w2.alloc (.cells #[.int .i64 a.code,.int .i64 a.n,.int .i64 a.x0,.int .i64 a.y0,.int .i64 a.x1,.int .i64 a.y1,.int .i64 a.b,.int .i64 a.l,.string (str a.key),.slice vA vn vcap] 57)).cell? ⟨w.heap.size+1,5,none⟩=some (.int .i64 0):=hn3.cellS rfl
  have d6:(w2.alloc (.cells #[.int .i64 a.code,.int .i64 a.n,.int .i64 a.x0,.int .i64 a.y0,.int .i64 a.x1,.int .i64 a.y1,.int .i64 a.b,.int .i64 a.l,.string (str a.key),.slice vA vn vcap] 57)).cell? ⟨w.heap.size+1,6,none⟩=some (.int .i64 0):=hn3.cellS rfl
  have d7:(w2.alloc (.cells #[.int .i64 a.code,.int .i64 a.n,.int .i64 a.x0,.int .i64 a.y0,.int .i64 a.x1,.int .i64 a.y1,.int .i64 a.b,.int .i64 a.l,.string (str a.key),.slice vA vn vcap] 57)).cell? ⟨w.heap.size+1,7,none⟩=some (.int .i64 0):=hn3.cellS rfl
  have d8:(w2.alloc (.cells #[.int .i64 a.code,.int .i64 a.n,.int .i64 a.x0,.int .i64 a.y0,.int .i64 a.x1,.int .i64 a.y1,.int .i64 a.b,.int .i64 a.l,.string (str a.key),.slice vA vn vcap] 57)).cell? ⟨w.heap.size+1,8,none⟩=some (.string ⟨#[]⟩):=hn3.cellS rfl
  have d9:(w2.alloc (.cells #[.int .i64 a.code,.int .i64 a.n,.int .i64 a.x0,.int .i64 a.y0,.int .i64 a.x1,.int .i64 a.y1,.int .i64 a.b,.int .i64 a.l,.string (str a.key),.slice vA vn vcap] 57)).cell? ⟨w.heap.size+1,9,none⟩=some (.slice none 0 0):=hn3.cellS rfl
  have fd0:=hn3.frozen 0
  have fd1:=hn3.frozen 1
  have fd2:=hn3.frozen 2
  have fd3:=hn3.frozen 3
  have fd4:=hn3.frozen 4
  have fd5:=hn3.frozen 5
  have fd6:=hn3.frozen 6
  have fd7:=hn3.frozen 7
  have fd8:=hn3.frozen 8
  have fd9:=hn3.frozen 9
  clear hl2 hs2 ho2 hbad hok k1 k2 k3 k4 HT1 HL1 HA1 HTRY HOB hn3 hba HFAR HLA HSA HBA HS2 HO2 HN2
  unfold ansV at HF ⊢
  go_wp2_with fail
  obtain ⟨hbk,hmd⟩:=an_stored HNA.out a (.slice vA vn vcap)
  generalize hWW:World.setCell _ _ _=WW at hbk hmd ⊢
  have k0:WW.cell? ⟨w.heap.size+1,0,none⟩=some (.int .i64 a.code):=hbk.cellS rfl
  have k1:WW.cell? ⟨w.heap.size+1,1,none⟩=some (.int .i64 a.n):=hbk.cellS rfl
  have k2:WW.cell? ⟨w.heap.size+1,2,none⟩=some (.int .i64 a.x0):=hbk.cellS rfl
  have k3:WW.cell? ⟨w.heap.size+1,3,none⟩=some (.int .i64 a.y0):=hbk.cellS rfl
  have k4:WW.cell? ⟨w.heap.size+1,4,none⟩=some (.int .i64 a.x1):=hbk.cellS rfl
  have k5:WW.cell? ⟨w.heap.size+1,5,none⟩=some (.int .i64 a.y1):=hbk.cellS rfl
  have k6:WW.cell? ⟨w.heap.size+1,6,none⟩=some (.int .i64 a.b):=hbk.cellS rfl
  have k7:WW.cell? ⟨w.heap.size+1,7,none⟩=some (.int .i64 a.l):=hbk.cellS rfl
  have k8:WW.cell? ⟨w.heap.size+1,8,none⟩=some (.string (str a.key)):=hbk.cellS rfl
  have k9:WW.cell? ⟨w.heap.size+1,9,none⟩=some (.slice vA vn vcap):=hbk.cellS rfl
  clear hWW hbk
  refine bodyPost_ret (v:=ansV a (.slice vA vn vcap)) (by simp [results,Tryz.results25,go_sem,ansV,k0,k1,k2,k3,k4,k5,k6,k7,k8,k9]) rfl ?_
  exact HF.out _ hmd
 ·obtain ⟨hst,e1,e2,e3,e4,e5,hF⟩:=hbad hx
  have e2:=e2.symm
  have e5:=e5.symm
  subst e2 e5
  have hrel:=hl2.ar.rel
  have HREL:=Lib.hid (And.intro hrel hl2.ar.add)
  have HGD:=Lib.hid hl2.good
  have HUN:=Lib.hid (fun w3 (h3:ArM w3 p R2 H'.S)=>undo_any w3 p R2 H'.S h3 hrel.inv t HT.out)
  have HST:=Lib.hid hst
  have HE:=Lib.hid (And.intro e1 (And.intro e3 e4))
  have HF:=Lib.hid hF
  have HX:=Lib.hid hx
  have HOZ:=Lib.hid (HOB.out (w.heap.size+1) (Nat.le_succ _) HZ0.out.2)
  have hxb:(x==0)=false:=beq_eq_false_iff_ne.2 hx
  have hxn:(x !=0)=true:=by simp [hx]
  have c0:(w2.alloc (.cells #[.int .i64 a.code,.int .i64 a.n,.int .i64 a.x0,.int .i64 a.y0,.int .i64 a.x1,.int .i64 a.y1,.int .i64 a.b,.int .i64 a.l,.string (str a.key),.slice vA vn vcap] 57)).cell? ⟨h,0,none⟩=some (.pointer (some ⟨p,0,none⟩)):=HLA.out.blk.cellS rfl
  have c1:(w2.alloc (.cells #[.int .i64 a.code,.int .i64 a.n,.int .i64 a.x0,.int .i64 a.y0,.int .i64 a.x1,.int .i64 a.y1,.int .i64 a.b,.int .i64 a.l,.string (str a.key),.slice vA vn vcap] 57)).cell? ⟨h,1,none⟩=some (.int .i64 t):=HLA.out.blk.cellS rfl
  clear hl2 hs2 ho2 hbad hok hst e1 e3 e4 hF hx HT1 HL1 HA1 HTRY HOB hn3 hba q0 q1 q2 q3 q4 q5 q6 hrel HS2
  unfold ansV
  go_wp2_with fail
  generalize World.alloc w2 _=wA at HLA HSA HBA HNA c0 c1 ⊢
  have HLT:=Lib.hid HLA.out.blk.lt
  go_region_held3 (fun w'=>w'.cell? ⟨h,0,none⟩=some (.pointer (some ⟨p,0,none⟩))∧w'.cell? ⟨h,1,none⟩=some (.int .i64 t))
   (first | (with_reducible exact ⟨c0,c1⟩) | (with_reducible exact ⟨e0,e1⟩) | go_keep)
   ((go_at_call 48;refine (HUN.out _ (by exact HLA.out.ar.arm.drew)).mono ?_;rintro e w3 ⟨rfl,ha3,hs3⟩;have e0:=(hs3.mod.cell (a:=⟨h,0,none⟩) HLT.out HLA.out.no).trans c0;have e1:=(hs3.mod.cell (a:=⟨h,1,none⟩) HLT.out HLA.out.no).trans c1))
  have hs3':Step p R2 {R2 with av:=upd R2.av t nilV} wA w3:=(Step.refl p R2 wA).drew.trans hs3
  clear e0 e1 c0 c1 HLT HUN
  have HA3:Hid (Ar w3 p {R2 with av:=upd R2.av t nilV} (undoS H'.S t) (undoA H'.A t)):=⟨ha3,(HREL.out.1.undo HT.out).1,undoS_add HREL.out.1 HT.out HREL.out.2⟩
  have HL3:Hid (Hl w3 h p {R2 with av:=upd R2.av t nilV} (undoS H'.S t) (undoA H'.A t) t d H'.Ws wv H'.ser H'.K kv):=HLA.out.arena HA3.out (hs3'.toH NoX) fun y hy=>by
   have hg:=HGD.out y hy
   rw [HE.out.1] at hy
   have hg0:=HL.out.good y hy
   exact ⟨⟨(HREL.out.1.undo HT.out).2.den.2 hg.has.1,has_nodes fun z hz=>(undo_have HST.out z).2 (HL.out.ar.rel.nodes_has HT.out hg0.has.2 z hz)⟩,hg.k1,hg.k40,hg.supp,hg.ok,hg.rule,hg.named⟩
  have HS3:Hid (HStep h p R wv kv {R2 with av:=upd R2.av t nilV} wv kv w w3):=HSA.out.trans hs3'.hst
  have HO3:Hid (∀b,Own p {R2 with av:=upd R2.av t nilV} b→Own p R2 b∨w2.heap.size≤b):=fun b hb=>by
   rcases hs3'.own b hb with k | k
   ·exact .inl k
   ·exact .inr (Nat.le_trans HBA.out.size k)
  have hn4:Blk w3 (w.heap.size+1) 57 (anC (An.zero 0) (.slice none 0 0)):=HNA.out.mod hs3'.mod HOZ.out.1
  have HN4:=Lib.hid hn4
  have HFIN:Hid (∀w4,Mod (fun b=>b=w.heap.size+1) w3 w4→DoP w h p R H t d wv kv F G (.returned (ansV (An.zero x) (.slice none 0 0))) w4):=fun w4 hm=>
   ⟨An.zero x,.slice none 0 0,⟨undoS H'.S t,undoA H'.A t,H'.Ws,H'.ser,H'.K⟩,wv,kv,{R2 with av:=upd R2.av t nilV},rfl,(HFAR.out _ _ _ w3 w4 HL3.out HO3.out HS3.out hm).1,(HFAR.out _ _ _ w3 w4 HL3.out HO3.out HS3.out hm).2,
    HO2.out.trans (undo_oth HREL.out.1 HT.out),fun _=>⟨rfl,rfl,undo_have HST.out,HE.out.1,HE.out.2.1,HE.out.2.2,H',HF.out⟩,fun e=>absurd e HX.out⟩
  clear ha3 hs3 hs3' HA3 HL3 HS3 HO3 HFAR HLA HSA HBA HNA HREL HGD HST
  have d0:w3.cell? ⟨w.heap.size+1,0,none⟩=some (.int .i64 0):=hn4.cellS rfl
  have d1:w3.cell? ⟨w.heap.size+1,1,none⟩=some (.int .i64 0):=hn4.cellS rfl
  have d2:w3.cell? ⟨w.heap.size+1,2,none⟩=some (.int .i64 0):=hn4.cellS rfl
  have d3:w3.cell? ⟨w.heap.size+1,3,none⟩=some (.int .i64 0):=hn4.cellS rfl
  have d4:w3.cell? ⟨w.heap.size+1,4,none⟩=some (.int .i64 0):=hn4.cellS rfl
  have d5:w3.cell? ⟨w.heap.size+1,5,none⟩=some (.int .i64 0):=hn4.cellS rfl
  have d6:w3.cell? ⟨w.heap.size+1,6,none⟩=some (.int .i64 0):=hn4.cellS rfl
  have d7:w3.cell? ⟨w.heap.size+1,7,none⟩=some (.int .i64 0):=hn4.cellS rfl
  have d8:w3.cell? ⟨w.heap.size+1,8,none⟩=some (.string ⟨#[]⟩):=hn4.cellS rfl
  have d9:w3.cell? ⟨w.heap.size+1,9,none⟩=some (.slice none 0 0):=hn4.cellS rfl
  have fd0:=hn4.frozen 0
  have fd1:=hn4.frozen 1
  have fd2:=hn4.frozen 2
  have fd3:=hn4.frozen 3
  have fd4:=hn4.frozen 4
  have fd5:=hn4.frozen 5
  have fd6:=hn4.frozen 6
  have fd7:=hn4.frozen 7
  have fd8:=hn4.frozen 8
  have fd9:=hn4.frozen 9
  go_wp2_with fail
  obtain ⟨hbk,hmd⟩:=an_refused HN4.out x
  generalize hWW:World.setCell _ _ _=WW at hbk hmd ⊢
  have k0:WW.cell? ⟨w.heap.size+1,0,none⟩=some (.int .i64 x):=hbk.cellS rfl
  have k1:WW.cell? ⟨w.heap.size+1,1,none⟩=some (.int .i64 0):=hbk.cellS rfl
  have k2:WW.cell? ⟨w.heap.size+1,2,none⟩=some (.int .i64 0):=hbk.cellS rfl
  have k3:WW.cell? ⟨w.heap.size+1,3,none⟩=some (.int .i64 0):=hbk.cellS rfl
  have k4:WW.cell? ⟨w.heap.size+1,4,none⟩=some (.int .i64 0):=hbk.cellS rfl
  have k5:WW.cell? ⟨w.heap.size+1,5,none⟩=some (.int .i64 0):=hbk.cellS rfl
  have k6:WW.cell? ⟨w.heap.size+1,6,none⟩=some (.int .i64 0):=hbk.cellS rfl
  have k7:WW.cell? ⟨w.heap.size+1,7,none⟩=some (.int .i64 0):=hbk.cellS rfl
  have k8:WW.cell? ⟨w.heap.size+1,8,none⟩=some (.string ⟨#[]⟩):=hbk.cellS rfl
  have k9:WW.cell? ⟨w.heap.size+1,9,none⟩=some (.slice none 0 0):=hbk.cellS rfl
  clear hWW hbk
  refine bodyPost_ret (v:=ansV (An.zero x) (.slice none 0 0)) (by simp [results,Tryz.results25,go_sem,ansV,An.zero,k0,k1,k2,k3,k4,k5,k6,k7,k8,k9,str]) rfl ?_
  exact HFIN.out _ hmd
end Go.Proofs.YthohnjgnpapnoaaGreatDoor
namespace Go.Proofs.YthohnjgnpapnoaaGreatDoor
open Go.RowKit
section
variable {w w0 wc w' : World} {h p t b : Nat} {R R' : ArR} {H H' : HS} {d x : Int} {wv kv wv' kv' : Value} {F : Int → HS → Prop} {G : An → HS → Prop} {a : An} {vA : Option Addr} {vn vcap : Nat}
structure Slot (w w0:World) (b:Nat):Prop where
 bel:Below w.heap.size w w0
 lo:w.heap.size≤b
 hi:b<w0.heap.size
theorem Slot.far (hs:Slot w w0 b) (HW:Hl w h p R H.S H.A t d H.Ws wv H.ser H.K kv) (hh:HStep h p R wv kv R' wv' kv' w0 wc):¬Own p R' b∧b≠h∧sblk wv'≠some b∧sblk kv'≠some b:=by
 have hn:=HW.new hs.lo
 have hi:=hs.hi
 refine ⟨fun ho=>?_,hn.2.1,fun e=>?_,fun e=>?_⟩
 ·rcases hh.own b ho with k | k
  ·exact hn.1 k
  ·omega
 ·rcases hh.nw b e with k | k
  ·exact hn.2.2.1 k
  ·omega
 ·rcases hh.nk b e with k | k
  ·exact hn.2.2.2 k
  ·omega
theorem Slot.keep (hs:Slot w w0 b) (HW:Hl w h p R H.S H.A t d H.Ws wv H.ser H.K kv) (hh:HStep h p R wv kv R' wv' kv' w0 wc) {ty:TypeId} {cs:Array Value} (hb:Blk w0 b ty cs):Blk wc b ty cs:=by
 have hn:=HW.new hs.lo
 exact hb.mod hh.mod fun ho=>by
  rcases ho with ho | ho | ho
  ·exact hn.1 ho
  ·exact hn.2.1 ho
  ·exact hn.2.2.1 ho
theorem Slot.hl {S':ArS} {A':Nat→Abs} {Ws':List WD} {ser':Nat} {K':List KeyD} (hs:Slot w w0 b) (HW:Hl w h p R H.S H.A t d H.Ws wv H.ser H.K kv) (hh:HStep h p R wv kv R' wv' kv' w0 wc) (hl:Hl wc h p R' S' A' t d Ws' wv' ser' K' kv') (hm:Mod (fun q=>q=b) wc w'):
 Hl w' h p R' S' A' t d Ws' wv' ser' K' kv'∧HStep h p R wv kv R' wv' kv' w w':=by
 obtain ⟨g1,g2,g3,g4⟩:=hs.far HW hh
 refine ⟨hl.far hm (fun q hq e=>g1 (e▸hq)) (fun e=>g2 e.symm) (fun q hq e=>g3 (e▸hq)) (fun q hq e=>g4 (e▸hq)),?_⟩
 have h2:=HStep.bel hs.bel hh
 have hlo:=hs.lo
 exact ⟨h2.mod.trans hm fun q hq e=>by omega,h2.own,h2.nw,h2.nk⟩
theorem try_no (hs:Slot w w0 b) (HW:Hl w h p R H.S H.A t d H.Ws wv H.ser H.K kv) (hh:HStep h p R wv kv R' wv kv w0 wc) (hl:Hl wc h p R' H'.S H'.A t d H.Ws wv H.ser H.K kv) (hst:St t H.S H.A H'.S H'.A) (he:H'.Ws=H.Ws∧H'.ser=H.ser∧H'.K=H.K) (hx:x≠0) (hF:F x H') (hm:Mod (fun q=>q=b) wc w'):
 TryP w h p R H t d wv kv F G (.returned (.tuple #[ansV (An.zero 0) (.slice none 0 0),.int .i64 x])) w':=by
 obtain ⟨k1,k2⟩:=hs.hl HW hh hl hm
 obtain ⟨e1,e2,e3⟩:=he
 exact ⟨An.zero 0,.slice none 0 0,x,H',wv,kv,R',rfl,⟨_,_,_,rfl⟩,by rw [e1,e2,e3];exact k1,k2,hst.toOth,fun _=>⟨hst,e1,rfl,e2,e3,rfl,hF⟩,fun e=>absurd e hx⟩
theorem try_ok (hs:Slot w w0 b) (HW:Hl w h p R H.S H.A t d H.Ws wv H.ser H.K kv) (hh:HStep h p R wv kv R' wv' kv' w0 wc) (hl:Hl wc h p R' H'.S H'.A t d H'.Ws wv' H'.ser H'.K kv') (ho:Oth t H.S H.A H'.S H'.A) (ha:a.code=0) (hG:G a H')
 (hrd:Rd wc wc.heap.size 2 (.slice vA vn vcap) a.cells.length (flat a.cells)) (hnew:∀q,sblk (.slice vA vn vcap)=some q→w0.heap.size≤q∧¬Own p R' q∧q≠h∧sblk wv'≠some q) (hm:Mod (fun q=>q=b) wc w'):
 TryP w h p R H t d wv kv F G (.returned (.tuple #[ansV a (.slice vA vn vcap),.int .i64 0])) w':=by
 obtain ⟨k1,k2⟩:=hs.hl HW hh hl hm
 have h1:=hs.bel.size
 have h2:=hs.hi
 exact ⟨a,_,0,H',wv',kv',R',rfl,⟨_,_,_,rfl⟩,k1,k2,ho,fun e=>absurd rfl e,fun _=>⟨ha,hG,hrd.stepX hm fun q hq _ e=>by
  have:=(hnew q hq).1
  omega,fun q hq=>by
  obtain ⟨g1,g2⟩:=hnew q hq
  exact ⟨by omega,g2⟩⟩⟩
theorem rd_none (w:World):Rd w w.heap.size 2 (.slice none 0 0) (An.zero 0).cells.length (flat (An.zero 0).cells):=(Sl.nil w 109 2).rd
theorem new_none {P:Nat→Prop}:∀q,sblk (.slice none 0 0)=some q→P q:=fun q hq=>by simp [sblk] at hq
end
section
variable {w w1 w2 : World} {h p t : Nat} {R : ArR} {S : ArS} {A : Nat → Abs} {d : Int} {Ws : List WD} {wv kv v' : Value} {ser ser' : Nat} {K K' : List KeyD}
theorem hlC_keys (p t:Nat) (d:Int) (wv:Value) (ser ser':Int) (kv v':Value):((hlC p t d wv ser kv).setIfInBounds 4 (.int .i64 ser')).setIfInBounds 5 v'=hlC p t d wv ser' v':=by unfold hlC;simp
theorem Hl.keys (H:Hl w2 h p R S A t d Ws wv ser K kv) (hs:Rd w2 w2.heap.size 3 v' K'.length (keysV K')) (hn:∀b,sblk v'=some b→b<w2.heap.size∧¬Own p R b∧b≠h∧sblk wv≠some b) (hk:K'.length≤32):
 Hl ((w2.setCell ⟨h,4,none⟩ (.int .i64 (ser':Int))).setCell ⟨h,5,none⟩ v') h p R S A t d Ws wv ser' K' v'∧Mod (fun b=>b=h) w2 ((w2.setCell ⟨h,4,none⟩ (.int .i64 (ser':Int))).setCell ⟨h,5,none⟩ v'):=by
 have hm:Mod (fun b=>b=h) w2 ((w2.setCell ⟨h,4,none⟩ (.int .i64 (ser':Int))).setCell ⟨h,5,none⟩ v'):=((Mod.refl (fun b=>b=h) w2).set (p:=⟨h,4,none⟩) (fun _=>rfl) _).set (p:=⟨h,5,none⟩) (fun _=>rfl) _
 refine ⟨⟨⟨H.ar.arm.keep hm fun b hb e=>H.no (e▸hb),H.ar.rel,H.ar.add⟩,H.ht,?_,H.no,H.ws.mod hm fun b hb e=>(H.wno b hb).2 e,H.wno,hs.stepX hm fun b hb _ e=>(hn b hb).2.2.1 e,fun b hb=>?_,H.good,H.nodup,H.len,hk⟩,hm⟩
 ·rw [←hlC_keys p t d wv ser ser' kv v']
  exact (H.blk.set 4 _).set 5 _
 ·obtain ⟨g1,g2,g3,g4⟩:=hn b hb
  exact ⟨Nat.lt_of_lt_of_le g1 hm.size,g2,g3,g4⟩
end
theorem cell_far {w:World} {b i c j:Nat} {u v:Value} (hne:b≠c) (h:w.cell? ⟨b,i,none⟩=some v):(w.setCell ⟨c,j,none⟩ u).cell? ⟨b,i,none⟩=some v:=
 (World.cell?_of_block (a:=⟨b,i,none⟩) (Below.heap_setCell w ⟨c,j,none⟩ u b hne)).trans h
section
variable {w4 w6 : World} {h p t : Nat} {R : ArR} {S : ArS} {A : Nat → Abs} {d : Int} {Ws : List WD} {wv kv v' : Value} {ser : Nat} {K : List KeyD} {x : WD} {o : Obj}
theorem hlC_ws (p t:Nat) (d:Int) (wv wv':Value) (ser:Int) (kv:Value):(hlC p t d wv ser kv).setIfInBounds 3 wv'=hlC p t d wv' ser kv:=by unfold hlC;simp
theorem Hl.more (H:Hl w4 h p R S A t d Ws wv ser K kv) (hx:WOk S A t x) (hnm:∀y∈Ws,y.name≠x.name) (hl:Ws.length<16) (hs6:Sl w6 137 4 v' (Ws.length+1) (wdsV Ws++wdV x)) (hm6:Mod (fun b=>sblk wv=some b) (w4.alloc o) w6)
 (hd6:sblk v'=sblk wv∨sblk v'=some (w4.alloc o).heap.size∧(w4.alloc o).heap.size<w6.heap.size):
 w6.cell? ⟨h,3,none⟩=some wv∧w6.frozen? ⟨h,3,none⟩=false∧Hl (w6.setCell ⟨h,3,none⟩ v') h p R S A t d (Ws++ [x]) v' ser K kv∧HStep h p R wv kv R v' kv w4 (w6.setCell ⟨h,3,none⟩ v'):=by
 have m1:Mod (fun b=>sblk wv=some b) w4 w6:=((Mod.refl (fun b=>sblk wv=some b) w4).alloc o).trans hm6 fun b _ e=>e
 have hb6:=H.blk.mod m1 (fun e=>(H.wno h e).2 rfl)
 have hsz:w4.heap.size≤(w4.alloc o).heap.size:=by rw [World.size_alloc];omega
 have hnew:∀b,sblk v'=some b→sblk wv=some b∨w4.heap.size≤b:=fun b hb=>by
  rcases hd6 with e | ⟨e,_⟩
  ·exact .inl (e▸hb)
  ·rw [e] at hb;injection hb with hb;exact .inr (by omega)
 have hno:∀b,sblk v'=some b→¬Own p R b∧b≠h:=fun b hb=>by
  rcases hnew b hb with k | k
  ·exact H.wno b k
  ·exact ⟨(H.new k).1,(H.new k).2.1⟩
 have hm:Mod (fun b=>b=h∨sblk wv=some b) w4 (w6.setCell ⟨h,3,none⟩ v'):=(m1.mono fun b _ e=> .inr e).set (p:=⟨h,3,none⟩) (fun _=> .inl rfl) _
 refine ⟨hb6.cellS rfl,hb6.frozen 3,⟨⟨H.ar.arm.keep hm fun b hb e=>?_,H.ar.rel,H.ar.add⟩,H.ht,?_,H.no,?_,hno,H.ks.stepX hm fun b hb _ e=>?_,fun b hb=>?_,fun y hy=>?_,?_,by rw [List.length_append,List.length_singleton];omega,H.klen⟩,⟨hm.mono fun b _ e=> .inr e,fun _ h=> .inl h,hnew,fun _ h=> .inl h⟩⟩
 ·rcases e with e | e
  ·exact H.no (e▸hb)
  ·exact (H.wno b e).1 hb
 ·rw [←hlC_ws p t d wv v' ser kv]
  exact hb6.set 3 _
 ·have e:wdsV (Ws++ [x])=wdsV Ws++wdV x:=by simp [wdsV]
  rw [e,List.length_append,List.length_singleton]
  exact hs6.far (p:=⟨h,3,none⟩) (fun e=>(hno h e).2 rfl) _
 ·rcases e with e | e
  ·exact (H.kno b hb).2.2.1 e
  ·exact (H.kno b hb).2.2.2 e
 ·obtain ⟨g1,g2,g3,g4⟩:=H.kno b hb
  refine ⟨Nat.lt_of_lt_of_le g1 hm.size,g2,g3,fun e=>?_⟩
  rcases hnew b e with k | k
  ·exact g4 k
  ·omega
 ·rcases List.mem_append.1 hy with k | k
  ·exact H.good y k
  ·rw [List.mem_singleton.1 k];exact hx
 ·rw [List.map_append,List.nodup_append]
  refine ⟨H.nodup,by simp,fun a ha b hb e=>?_⟩
  obtain ⟨y,hy,rfl⟩:=List.mem_map.1 ha
  simp at hb
  exact hnm y hy (e.trans hb)
end
theorem slotsG (w:World) (cs:Array Value) (ty:TypeId) {w0:World} (hw:(w.alloc (.cells cs ty)).alloc (.cells (anC (An.zero 0) (.slice none 0 0)) 57)=w0):
 Slot w w0 (w.heap.size+1)∧Blk w0 w.heap.size ty cs∧Blk w0 (w.heap.size+1) 57 (anC (An.zero 0) (.slice none 0 0))∧Slot w w0 w.heap.size:=by
 subst hw
 have hb:Below w.heap.size w ((w.alloc (.cells cs ty)).alloc (.cells (anC (An.zero 0) (.slice none 0 0)) 57)):=((Below.refl _ _).alloc (Nat.le_refl _) _).alloc (by simp) _
 have h2:=Blk.new (w.alloc (.cells cs ty)) 57 (anC (An.zero 0) (.slice none 0 0))
 rw [World.size_alloc] at h2
 have h1:=(Blk.new w ty cs).alloc (.cells (anC (An.zero 0) (.slice none 0 0)) 57)
 exact ⟨⟨hb,Nat.le_succ _,h2.lt⟩,h1,h2,⟨hb,Nat.le_refl _,h1.lt⟩⟩
theorem slots (w:World) (q:SReq) (v:Value) {w0:World} (hw:(w.alloc (.cells (qC q v) 60)).alloc (.cells (anC (An.zero 0) (.slice none 0 0)) 57)=w0):
 Slot w w0 (w.heap.size+1)∧Blk w0 w.heap.size 60 (qC q v)∧Blk w0 (w.heap.size+1) 57 (anC (An.zero 0) (.slice none 0 0))∧Slot w w0 w.heap.size:=slotsG w _ _ hw
end Go.Proofs.YthohnjgnpapnoaaGreatDoor
namespace Go.Proofs.YthohnjgnpapnoaaGreatDoor
open Go.RowKit
section
variable {w w3 w4 : World} {h p t b : Nat} {R : ArR} {H : HS} {d : Int} {wv kv : Value} {F F' : Int → HS → Prop} {G G' : An → HS → Prop} {e : Ending}
theorem try_pass (hs:Slot w w3 b) (HW:Hl w h p R H.S H.A t d H.Ws wv H.ser H.K kv) (hb:Blk w3 b 57 (anC (An.zero 0) (.slice none 0 0))) (hp:TryP w3 h p R H t d wv kv F G e w4) (hF:∀x H',F x H'→F' x H') (hG:∀a H',G a H'→G' a H'):
 ∃(a:An) (vA:Option Addr) (vn vcap:Nat) (x:Int),e= .returned (.tuple #[ansV a (.slice vA vn vcap),.int .i64 x])∧Blk w4 b 57 (anC (An.zero 0) (.slice none 0 0))∧∀w5,Mod (fun q=>q=b) w4 w5→TryP w h p R H t d wv kv F' G' (.returned (.tuple #[ansV a (.slice vA vn vcap),.int .i64 x])) w5:=by
 obtain ⟨a,v,x,H',wv',kv',R',rfl,⟨vA,vn,vcap,rfl⟩,hl,hst,ho,hx,h0⟩:=hp
 refine ⟨a,vA,vn,vcap,x,rfl,hs.keep HW hst hb,fun w5 hm=>?_⟩
 obtain ⟨k1,k2⟩:=hs.hl HW hst hl hm
 have h1:=hs.bel.size
 have h2:=hs.hi
 refine ⟨a,_,x,H',wv',kv',R',rfl,⟨_,_,_,rfl⟩,k1,k2,ho,fun hn=>?_,fun he=>?_⟩
 ·obtain ⟨g1,g2,g3,g4,g5,g6,g7⟩:=hx hn
  exact ⟨g1,g2,g3,g4,g5,g6,hF _ _ g7⟩
 ·obtain ⟨g1,g2,g3,g4⟩:=h0 he
  refine ⟨g1,hG _ _ g2,g3.stepX hm fun q hq _ e=>by have:=(g4 q hq).1;omega,fun q hq=>?_⟩
  obtain ⟨m1,m2⟩:=g4 q hq
  exact ⟨by omega,m2⟩
end
theorem slots3 (w:World) (h:Nat) (q:SReq) (v:Value) {w0:World} (hw:((w.alloc (.cells #[.pointer (some ⟨h,0,none⟩)] 47)).alloc (.cells (qC q v) 60)).alloc (.cells (anC (An.zero 0) (.slice none 0 0)) 57)=w0):
 Slot w w0 (w.heap.size+1+1)∧Blk w0 (w.heap.size+1) 60 (qC q v)∧Blk w0 (w.heap.size+1+1) 57 (anC (An.zero 0) (.slice none 0 0))∧Slot w w0 (w.heap.size+1)∧Blk w0 w.heap.size 47 #[.pointer (some ⟨h,0,none⟩)]∧Slot w w0 w.heap.size:=by
 subst hw
 have hb:Below w.heap.size w (((w.alloc (.cells #[.pointer (some ⟨h,0,none⟩)] 47)).alloc (.cells (qC q v) 60)).alloc (.cells (anC (An.zero 0) (.slice none 0 0)) 57)):=(((Below.refl _ _).alloc (Nat.le_refl _) _).alloc (by simp) _).alloc (by simp;omega) _
 have h0:=Blk.new w 47 #[.pointer (some ⟨h,0,none⟩)]
 have h1:=Blk.new (w.alloc (.cells #[.pointer (some ⟨h,0,none⟩)] 47)) 60 (qC q v)
 have h2:=Blk.new ((w.alloc (.cells #[.pointer (some ⟨h,0,none⟩)] 47)).alloc (.cells (qC q v) 60)) 57 (anC (An.zero 0) (.slice none 0 0))
 simp only [World.size_alloc] at h1 h2
 have g1:=h1.alloc (.cells (anC (An.zero 0) (.slice none 0 0)) 57)
 have g0:=(h0.alloc (.cells (qC q v) 60)).alloc (.cells (anC (An.zero 0) (.slice none 0 0)) 57)
 exact ⟨⟨hb,by omega,h2.lt⟩,g1,h2,⟨hb,by omega,g1.lt⟩,g0,⟨hb,Nat.le_refl _,g0.lt⟩⟩
end Go.Proofs.YthohnjgnpapnoaaGreatDoor
namespace Go.Proofs.YthohnjgnpapnoaaGreatDoor
open Go.RowKit
theorem wdsV_set:∀(l:List WD) (i:Nat) (y:WD) (r:Int) (P:Int→Int→Bool) (k:Nat),l[i]? =some y→wdsV (l.set i {y with root:=r,P:=P,k:=k})=(wdsV l).set (i*4+1) (.int .i64 r)
 | [],i,y,r,P,k,h=>by simp at h
 | a::l,0,y,r,P,k,h=>by
   simp at h;subst h
   simp [wdsV,wdV]
 | a::l,i+1,y,r,P,k,h=>by
   have ih:=wdsV_set l i y r P k (by simpa using h)
   rw [wdsV,wdsV] at ih
   rw [List.set_cons_succ,wdsV,wdsV,List.flatMap_cons,List.flatMap_cons,ih,show (i+1)*4+1=i*4+1+1+1+1+1 by omega]
   simp [wdV]
section
variable {w4 : World} {h p t : Nat} {R : ArR} {S : ArS} {A : Nat → Abs} {d : Int} {Ws : List WD} {kv : Value} {ser : Nat} {K : List KeyD} {b off cap i : Nat} {y : WD} {r : Int} {P : Int → Int → Bool} {k : Nat}
theorem Hl.root (H:Hl w4 h p R S A t d Ws (.slice (some ⟨b,off,none⟩) Ws.length cap) ser K kv) (hy:Ws[i]? =some y) (hx:WOk S A t {y with root:=r,P:=P,k:=k}):
 w4.frozen? ⟨b,off+(i*4+1),none⟩=false∧Hl (w4.setCell ⟨b,off+(i*4+1),none⟩ (.int .i64 r)) h p R S A t d (Ws.set i {y with root:=r,P:=P,k:=k}) (.slice (some ⟨b,off,none⟩) Ws.length cap) ser K kv∧
  HStep h p R (.slice (some ⟨b,off,none⟩) Ws.length cap) kv R (.slice (some ⟨b,off,none⟩) Ws.length cap) kv w4 (w4.setCell ⟨b,off+(i*4+1),none⟩ (.int .i64 r)):=by
 obtain ⟨hil,hyi⟩:=List.getElem?_eq_some_iff.1 hy
 have hm:Mod (fun q=>q=b) w4 (w4.setCell ⟨b,off+(i*4+1),none⟩ (.int .i64 r)):=(Mod.refl (fun q=>q=b) w4).set (p:=⟨b,off+(i*4+1),none⟩) (fun _=>rfl) _
 have hwb:=H.wno b rfl
 obtain ⟨_,cs,hcs⟩:=H.ws.lt (b:=b) rfl
 refine ⟨hcs.frozen _,⟨⟨H.ar.arm.keep hm fun q hq e=>hwb.1 (e▸hq),H.ar.rel,H.ar.add⟩,H.ht,H.blk.mod hm (fun e=>hwb.2 e.symm),H.no,?_,H.wno,H.ks.stepX hm fun q hq _ e=>(H.kno q hq).2.2.2 (by rw [e];rfl),fun q hq=>?_,fun x hxm=>?_,?_,by rw [List.length_set];exact H.len,H.klen⟩,⟨hm.mono fun q _ e=> .inr (.inr (by rw [e];rfl)),fun _ h=> .inl h,fun _ h=> .inl h,fun _ h=> .inl h⟩⟩
 ·rw [List.length_set,wdsV_set Ws i y r P k hy]
  exact H.ws.putAt (by omega) _
 ·obtain ⟨g1,g2⟩:=H.kno q hq
  exact ⟨Nat.lt_of_lt_of_le g1 hm.size,g2⟩
 ·rcases List.mem_or_eq_of_mem_set hxm with e | e
  ·exact H.good x e
  ·rw [e];exact hx
 ·rw [List.map_set]
  have e:(Ws.map WD.name).set i y.name=Ws.map WD.name:=by
   apply List.ext_getElem?
   intro j
   rw [List.getElem?_set]
   by_cases hj:i=j
   ·subst hj;rw [if_pos rfl,if_pos (by rw [List.length_map];exact hil),List.getElem?_map,hy];rfl
   ·rw [if_neg hj]
  show ((Ws.map WD.name).set i y.name).Nodup
  rw [e];exact H.nodup
end
end Go.Proofs.YthohnjgnpapnoaaGreatDoor
