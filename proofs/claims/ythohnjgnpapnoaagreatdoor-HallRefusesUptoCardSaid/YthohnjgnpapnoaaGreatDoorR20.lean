/- hall: find. · quad: the list of a square's cells; Cells' closure. · quad: each, for Cells. · quad: Cells. · ArenaUndoes, ArenaKeeps: the plain laws. · hall: what a hall's work may change; answers. · A request as a value. -/
import Derived.Test.YthohnjgnpapnoaaGreatDoorR19
import Derived.Deep.DeepCutAuto
import Derived.Test.YthohnjgnpapnoaaGreatDoorR17
import Derived.Deep.RegionLaw
import Derived.Test.YthohnjgnpapnoaaGreatDoorR15
import Derived.Test.YthohnjgnpapnoaaGreatDoorR16
import Derived.Test.YthohnjgnpapnoaaGreatDoorR1
set_option linter.unusedVariables false
set_option linter.unusedSimpArgs false
namespace Go.Proofs.YthohnjgnpapnoaaGreatDoor
open Go.RowKit
structure HlR (w:World) (h p t:Nat) (d:Int) (Ws:List WD) (wv:Value) (ser:Nat) (K:List KeyD) (kv:Value):Prop where
 blk:Blk w h 104 (hlC p t d wv ser kv)
 ws:Sl w 137 4 wv Ws.length (wdsV Ws)
 ks:Rd w w.heap.size 3 kv K.length (keysV K)
 len:Ws.length≤16
 klen:K.length≤32
theorem Hl.r {w:World} {h p:Nat} {R:ArR} {S:ArS} {A:Nat→Abs} {t:Nat} {d:Int} {Ws:List WD} {wv:Value} {ser:Nat} {K:List KeyD} {kv:Value} (H:Hl w h p R S A t d Ws wv ser K kv):HlR w h p t d Ws wv ser K kv:=⟨H.blk,H.ws,H.ks,H.len,H.klen⟩
theorem HlR.below {w w':World} {h p t:Nat} {d:Int} {Ws:List WD} {wv:Value} {ser:Nat} {K:List KeyD} {kv:Value} (H:HlR w h p t d Ws wv ser K kv) (hb:Below w.heap.size w w'):HlR w' h p t d Ws wv ser K kv:=
 ⟨H.blk.mod (Mod.of_below_all hb) (fun h=>h),H.ws.below hb,(H.ks.below hb).more hb.size,H.len,H.klen⟩
def ScanP (w:World) (wv:Value) (Ws:List WD) (nm:List UInt8) (e:Ending) (w':World):Prop:=
 match idxF Ws nm with
 | some i=>i<Ws.length∧∃b off cap,wv= .slice (some ⟨b,off,none⟩) Ws.length cap∧e= .returned (.tuple #[.pointer (some ⟨b,off+i*4,none⟩),.int .i64 0])∧w=w'
 | none=>e= .returned (.tuple #[.pointer none,.int .i64 6])∧w=w'
theorem find_end {w w1 w':World} {wv:Value} {Ws:List WD} {K:List KeyD} {name nm:List UInt8} {r:Int} {e:Ending} (hf:(if keyedW name then keyF K name r else (name,0))=(nm,0)) (hb:Below w.heap.size w w1) (h:ScanP w1 wv Ws nm e w'):FindHP w wv Ws K name r e w':=by
 unfold ScanP at h
 unfold FindHP hfind
 simp only [hf,if_true]
 cases hi:idxF Ws nm with
 | none=>
   rw [hi] at h
   obtain ⟨rfl,rfl⟩:=h
   exact ⟨none,rfl,hb,fun _=>rfl,fun e=>absurd e (by decide)⟩
 | some i=>
   rw [hi] at h
   obtain ⟨h1,b,off,cap,h2,rfl,rfl⟩:=h
   exact ⟨_,rfl,hb,fun e=>absurd rfl e,fun _=>⟨h1,b,off,cap,h2,rfl⟩⟩
set_option maxRecDepth 100000 in
set_option maxHeartbeats 3200000 in
theorem hfind_any (w:World) (h p t:Nat) (d:Int) (Ws:List WD) (wv:Value) (ser:Nat) (K:List KeyD) (kv:Value) (H:HlR w h p t d Ws wv ser K kv) (name:List UInt8) (hn:name.length≤4294967296) (r:Int):
 Calls Tryz.prog 76 #[.pointer (some ⟨h,0,none⟩),.string (str name),.int .i64 r] w (FindHP w wv Ws K name r):=by
 have HH:=Lib.hid H
 obtain ⟨wA,wcap,hwv,hwc1,hwc2⟩:=H.ws.form
 obtain ⟨kA,kcap,hkv,hkc1,hkc2⟩:=H.ks.form
 subst hwv hkv
 have HKY:=Lib.hid (keyedS_any w name hn)
 have hl16:=H.len
 have HRES:Hid (∀e w',FindHP w (.slice wA Ws.length wcap) Ws K name r e w'→FindHP w (.slice wA Ws.length wcap) Ws K name r e w'):=fun _ _ q=>q
 clear H
 generalize hN:Ws.length=n at*
 have HN:=Lib.hid hN
 clear hN
 unfold maxLen at hwc2
 have c3:w.cell? ⟨h,3,none⟩=some (.slice wA n wcap):=HH.out.blk.cellS rfl
 have c4:w.cell? ⟨h,4,none⟩=some (.int .i64 ser):=HH.out.blk.cellS rfl
 have c5:w.cell? ⟨h,5,none⟩=some (.slice kA K.length kcap):=HH.out.blk.cellS rfl
 go_enter Tryz.func76,Tryz.ntmps76
 go_wp2_with fail
 (with_reducible refine HKY.out.mono ?_)
 rintro e wq ⟨rfl,rfl⟩
 cases hk:keyedW name
 ·have HKF:Hid (keyedW name=false):=hk
  clear hk HKY
  go_wp2_with fail
  go_loopw [30] (fun iv wx=>∃i:Nat,iv= .int .i64 i∧i≤n∧(∀j,j<i→∀y,Ws[j]? =some y→y.name≠name)∧wx=w) (fun iv _=>n-(intOf iv).toNat)
  case atStart=>exact ⟨0,rfl,Nat.zero_le _,fun j hj=>absurd hj (Nat.not_lt_zero _),rfl⟩
  case round=>
   obtain ⟨i,rfl,hi,hno,rfl⟩:=hrel
   have HNO:=Lib.hid hno
   clear hno
   by_cases hlt:i<n
   ·obtain ⟨x,hx⟩:∃x,Ws[i]? =some x:=⟨_,List.getElem?_eq_getElem (by have:=HN.out;omega)⟩
    have HX:=Lib.hid hx
    obtain ⟨b,off,cap,hv,_,_,d0,_,_,_⟩:=ws_cells (HH.out).ws hx
    injection hv with hv _ hcap
    subst hv
    have hne:=name_eq x.name name
    have hib:(i:Int)<(n:Int):=by omega
    have hwi:IntKind.i64.wrap ((i:Int)+1)=(i:Int)+1:=by rw [IntKind.wrap_i64];omega
    have HI:=Lib.hid (And.intro hlt hcap)
    clear hx hlt hi hcap
    by_cases hq:x.name=name
    ·have HQ:=Lib.hid hq
     rw [decide_eq_true hq] at hne
     have HRR:Hid (FindHP wr (.slice (some ⟨b,off,none⟩) Ws.length wcap) Ws K name r (.returned (.tuple #[.pointer (some ⟨b,off+i*4,none⟩),.int .i64 0])) wr):=find_end (by rw [if_neg (by rw [HKF.out];decide)]) (Below.refl _ _) (by
      unfold ScanP
      rw [idx_found HNO.out HX.out HQ.out]
      exact ⟨by have:=HN.out;have:=HI.out;omega,b,off,wcap,rfl,rfl,rfl⟩)
     rw [HN.out] at HRR
     clear hq
     go_wp2_with fail
     go_returns
     exact HRR.out
    ·have HQ:=Lib.hid hq
     rw [decide_eq_false hq] at hne
     clear hq
     go_wp2_with fail
     go_roundw
     case rel=>exact ⟨i+1,by go_num,HI.out.1,idx_skip HNO.out HX.out HQ.out,trivial⟩
     case measure=>simp [intOf];have:=HI.out.1;omega
   ·have HRR:Hid (FindHP wr (.slice wA n wcap) Ws K name r (.returned (.tuple #[.pointer none,.int .i64 6])) wr):=find_end (by rw [if_neg (by rw [HKF.out];decide)]) (Below.refl _ _) (by
     unfold ScanP
     rw [idx_none fun j hj=>HNO.out j (by have:=HN.out;omega)]
     exact ⟨rfl,rfl⟩)
    have hge:(n:Int)≤(i:Int):=by omega
    clear hlt hi
    go_wp2_with fail
    go_returns
    exact HRR.out
 ·have HKF0:Hid (keyedW name=true):=hk
  have HFK:=Lib.hid (find_any w ser K.length HH.out.klen K rfl (.slice kA K.length kcap) w.heap.size (Nat.le_refl _) HH.out.ks (str name) r)
  clear hk HKY
  go_wp2_with fail
  (with_reducible refine HFK.out.mono ?_)
  rintro e w1 ⟨nm,x,hf,rfl,hb⟩
  obtain ⟨hx,hnm⟩:=keyF_post hf
  have HB1:=Lib.hid hb
  have HH1:=Lib.hid (HH.out.below hb)
  clear hb hf HFK c3 c4 c5
  have c3:w1.cell? ⟨h,3,none⟩=some (.slice wA n wcap):=HH1.out.blk.cellS rfl
  by_cases hx0:x=0
  ·subst hx0
   obtain rfl:=hnm rfl
   have HKF:Hid ((if keyedW name then keyF K name r else (name,0))=((keyF K name r).1,0)):=by
    show _=_
    rw [if_pos HKF0.out]
    ext
    ·rfl
    ·exact hx.symm
   clear hx hnm
   go_wp2_with fail
   go_loopw [30] (fun iv wx=>∃i:Nat,iv= .int .i64 i∧i≤n∧(∀j,j<i→∀y,Ws[j]? =some y→y.name≠(keyF K name r).1)∧wx=w1) (fun iv _=>n-(intOf iv).toNat)
   case atStart=>exact ⟨0,rfl,Nat.zero_le _,fun j hj=>absurd hj (Nat.not_lt_zero _),rfl⟩
   case round=>
    obtain ⟨i,rfl,hi,hno,rfl⟩:=hrel
    have HNO:=Lib.hid hno
    clear hno
    by_cases hlt:i<n
    ·obtain ⟨x,hx⟩:∃x,Ws[i]? =some x:=⟨_,List.getElem?_eq_getElem (by have:=HN.out;omega)⟩
     have HX:=Lib.hid hx
     obtain ⟨b,off,cap,hv,_,_,d0,_,_,_⟩:=ws_cells (HH1.out).ws hx
     injection hv with hv _ hcap
     subst hv
     have hne:=name_eq x.name (keyF K name r).1
     have hib:(i:Int)<(n:Int):=by omega
     have hwi:IntKind.i64.wrap ((i:Int)+1)=(i:Int)+1:=by rw [IntKind.wrap_i64];omega
     have HI:=Lib.hid (And.intro hlt hcap)
     clear hx hlt hi hcap
     by_cases hq:x.name=(keyF K name r).1
     ·have HQ:=Lib.hid hq
      rw [decide_eq_true hq] at hne
      have HRR:Hid (FindHP w (.slice (some ⟨b,off,none⟩) Ws.length wcap) Ws K name r (.returned (.tuple #[.pointer (some ⟨b,off+i*4,none⟩),.int .i64 0])) wr):=find_end HKF.out HB1.out (by
       unfold ScanP
       rw [idx_found HNO.out HX.out HQ.out]
       exact ⟨by have:=HN.out;have:=HI.out;omega,b,off,wcap,rfl,rfl,rfl⟩)
      rw [HN.out] at HRR
      clear hq
      go_wp2_with fail
      go_returns
      exact HRR.out
     ·have HQ:=Lib.hid hq
      rw [decide_eq_false hq] at hne
      clear hq
      go_wp2_with fail
      go_roundw
      case rel=>exact ⟨i+1,by go_num,HI.out.1,idx_skip HNO.out HX.out HQ.out,trivial⟩
      case measure=>simp [intOf];have:=HI.out.1;omega
    ·have HRR:Hid (FindHP w (.slice wA n wcap) Ws K name r (.returned (.tuple #[.pointer none,.int .i64 6])) wr):=find_end HKF.out HB1.out (by
      unfold ScanP
      rw [idx_none fun j hj=>HNO.out j (by have:=HN.out;omega)]
      exact ⟨rfl,rfl⟩)
     have hge:(n:Int)≤(i:Int):=by omega
     clear hlt hi
     go_wp2_with fail
     go_returns
     exact HRR.out
  ·have HRR:Hid (FindHP w (.slice wA n wcap) Ws K name r (.returned (.tuple #[.pointer none,.int .i64 x])) w1):=by
    have e:hfind Ws K name r=(0,x):=by
     unfold hfind
     rw [if_pos HKF0.out]
     simp only [←hx,hx0,if_false]
    refine ⟨none,by rw [e],HB1.out,fun _=>rfl,fun q=>?_⟩
    rw [e] at q
    exact absurd q hx0
   have hxb:(x==0)=false:=beq_eq_false_iff_ne.2 hx0
   clear hx hnm hx0
   go_wp2_with fail
   go_returns
   exact HRR.out
end Go.Proofs.YthohnjgnpapnoaaGreatDoor
namespace Go.Proofs.YthohnjgnpapnoaaGreatDoor
open Go.RowKit
def cellsT (P:Int→Int→Bool):Nat→Int→Int→List (Int×Int)
 | 0,x,y=>if P x y then [(x,y)] else []
 | n+1,x,y=>cellsT P n (gx (2^n) x 0) (gy (2^n) y 0)++cellsT P n (gx (2^n) x 1) (gy (2^n) y 1)++cellsT P n (gx (2^n) x 2) (gy (2^n) y 2)++cellsT P n (gx (2^n) x 3) (gy (2^n) y 3)
theorem mem_cellsT (P:Int→Int→Bool):∀(n:Nat) (x y:Int) (c:Int×Int),c∈cellsT P n x y↔inB n x y c.1 c.2∧P c.1 c.2=true
 | 0,x,y,(a,b)=>by
   simp only [cellsT]
   constructor
   ·intro h
    split at h
    ·rename_i hp
     simp at h
     obtain ⟨rfl,rfl⟩:=h
     exact ⟨by unfold inB;simp;omega,hp⟩
    ·simp at h
   ·rintro ⟨h,hp⟩
    unfold inB at h
    simp at h
    have h1:a=x:=by omega
    have h2:b=y:=by omega
    subst h1 h2
    rw [if_pos hp];simp
 | n+1,x,y,c=>by
   simp only [cellsT,List.mem_append]
   rw [mem_cellsT P n,mem_cellsT P n,mem_cellsT P n,mem_cellsT P n,inB.up]
   show ((inB n x y c.1 c.2∧_∨inB n (x+2^n) y c.1 c.2∧_)∨inB n x (y+2^n) c.1 c.2∧_)∨inB n (x+2^n) (y+2^n) c.1 c.2∧_↔_
   constructor
   ·rintro (((⟨h,k⟩ | ⟨h,k⟩) | ⟨h,k⟩) | ⟨h,k⟩)
    ·exact ⟨.inl h,k⟩
    ·exact ⟨.inr (.inl h),k⟩
    ·exact ⟨.inr (.inr (.inl h)),k⟩
    ·exact ⟨.inr (.inr (.inr h)),k⟩
   ·rintro ⟨h | h | h | h,k⟩
    ·exact .inl (.inl (.inl ⟨h,k⟩))
    ·exact .inl (.inl (.inr ⟨h,k⟩))
    ·exact .inl (.inr ⟨h,k⟩)
    ·exact .inr ⟨h,k⟩
theorem cellsT_blank {P:Int→Int→Bool} {n:Nat} {x y:Int} (h:blankT (treeOf P n x y)=true):cellsT P n x y= []:=by
 refine List.eq_nil_iff_forall_not_mem.2 fun c hc=>?_
 obtain ⟨h1,h2⟩:=(mem_cellsT P n x y c).1 hc
 rw [(blankT_of P n x y).1 h c.1 c.2 h1] at h2;cases h2
structure OutI (w:World) (ob B0:Nat) (V:Value) (L:List (Int×Int)):Prop where
 blk:Blk w ob 55 #[V]
 sl:Sl w 109 2 V L.length (flat L)
 lo:B0≤ob
 fr:∀b,sblk V=some b→B0≤b
theorem OutI.mod {w w':World} {ob B0:Nat} {V:Value} {L:List (Int×Int)} {T:Nat→Prop} (h:OutI w ob B0 V L) (hm:Mod T w w') (hT:∀b,B0≤b→¬T b):OutI w' ob B0 V L:=
 ⟨h.blk.mod hm (hT ob h.lo),h.sl.mod hm fun b hb=>hT b (h.fr b hb),h.lo,h.fr⟩
theorem OutI.ne {w:World} {ob B0:Nat} {V:Value} {L:List (Int×Int)} (h:OutI w ob B0 V L):sblk V≠some ob:=fun e=>by
 obtain ⟨_,cs,hk⟩:=h.sl.lt e
 exact absurd (hk.inj h.blk).1 (by decide)
theorem OutI.app {w wy w1:World} {ob B0:Nat} {V v v':Value} {L:List (Int×Int)} {c:Int×Int} (h:OutI w ob B0 V L) (hV:V=v) {n:Nat} (hn:L.length=n) (hB:B0≤w.heap.size) (hb:Below w.heap.size w wy) (hm:Mod (fun b=>sblk v=some b) wy w1)
 (hs:Sl w1 109 2 v' (n+1) (flat L++flat [c])) (hd:sblk v'=sblk v∨sblk v'=some wy.heap.size∧wy.heap.size<w1.heap.size):
 w1.cell? ⟨ob,0,none⟩=some v∧w1.frozen? ⟨ob,0,none⟩=false∧(w1.setCell ⟨ob,0,none⟩ v').cell? ⟨ob,0,none⟩=some v'∧OutI (w1.setCell ⟨ob,0,none⟩ v') ob B0 v' (L++ [c])∧Mod (fun b=>B0≤b) w (w1.setCell ⟨ob,0,none⟩ v'):=by
 subst hV hn
 have hbl:=((h.blk.mod (Mod.of_below_all hb) (fun h=>h)).mod hm h.ne)
 have hf:∀b,sblk v'=some b→B0≤b:=fun b e=>by
  rcases hd with d | ⟨d,_⟩
  ·exact h.fr b (d▸e)
  ·rw [d] at e;injection e with e;have:=hb.size;omega
 have hne:sblk v'≠some ob:=fun e=>by
  rcases hd with d | ⟨d,_⟩
  ·exact h.ne (d▸e)
  ·rw [d] at e;injection e with e;have:=(h.blk.mod (Mod.of_below_all hb) (fun h=>h)).lt;omega
 have hset:Blk (w1.setCell ⟨ob,0,none⟩ v') ob 55 #[v']:=hbl.set 0 v'
 refine ⟨hbl.cellS rfl,hbl.frozen 0,hset.cellS rfl,⟨hset,?_,h.lo,hf⟩,?_⟩
 ·rw [flat_append,List.length_append,List.length_singleton]
  exact hs.far (p:=⟨ob,0,none⟩) hne _
 ·exact ((Mod.of_below_all hb).mono fun _ _ h=>h.elim:Mod (fun b=>B0≤b) w wy).trans (hm.mono fun b _ e=>h.fr b e:Mod (fun b=>B0≤b) wy w1) (fun b _ h=>h) |>.set (p:=⟨ob,0,none⟩) (fun _=>h.lo) _
def ClosPost (w:World) (ob B0:Nat) (L:List (Int×Int)) (c:Int×Int) (e:Ending) (w':World):Prop:=
 ∃V':Value,e= .returned (.bool (decide ((L++ [c]).length≤4096)))∧OutI w' ob B0 V' (L++ [c])∧Mod (fun b=>B0≤b) w w'
set_option maxRecDepth 100000 in
set_option maxHeartbeats 3200000 in
theorem clos_any (w:World) (ob B0:Nat) (V:Value) (L:List (Int×Int)) (h:OutI w ob B0 V L) (hB:B0≤w.heap.size) (hl:L.length≤4096) (cx cy:Int):
 Calls Tryz.prog 157 #[.agg #[.int .i64 cx,.int .i64 cy],.pointer (some ⟨ob,0,none⟩)] w (ClosPost w ob B0 L (cx,cy)):=by
 obtain ⟨vA,vcap,hV,hv1,hv2⟩:=h.sl.form
 have HV:=Lib.hid hV
 have H:=Lib.hid h
 have HBB:=Lib.hid hB
 have HBW:Hid (Below w.heap.size w (w.alloc (.cells #[.int .i64 cx,.int .i64 cy] 109))):=(Below.refl _ _).alloc (Nat.le_refl _) _
 have HSL:=Lib.hid (h.sl.below HBW.out)
 rw [hV] at HSL
 have c0:=(h.blk.mod (Mod.of_below_all HBW.out) (fun h=>h)).cellS (i:=0) rfl
 have d0:(w.alloc (.cells #[.int .i64 cx,.int .i64 cy] 109)).cell? ⟨ob,0,none⟩=some (.slice vA L.length vcap):=c0.trans (congrArg some hV)
 generalize hLN:L.length=n at*
 have HLN:=Lib.hid hLN
 clear h hV hLN hB c0
 have hx:=Rd.fresh (w.alloc (.cells #[.int .i64 cx,.int .i64 cy] 109)) 109 #[.int .i64 cx,.int .i64 cy] 2 1 rfl (by unfold maxLen;omega)
 rw [World.size_alloc] at hx
 have HX:=Lib.hid hx
 clear hx
 have HDL:Hid ((L++ [(cx,cy)]).length=n+1):=by have:=HLN.out;show _=_;rw [List.length_append,List.length_singleton,this]
 have hl2:(n:Int)≤4096:=by omega
 clear hl
 by_cases hle:(n:Int)+1≤4096
 all_goals (
  go_enter Tryz.func157,Tryz.ntmps157
  go_wp2_with (at_builtin;refine wpList_append_sl _ rfl (.tmp 4) (.tmp 6) 55 rfl 109 (.agg #[.int .i64 0,.int .i64 0]) 2 16 Tryz.underlying55 Tryz.info109 rfl (by decide) rfl (by exact HSL.out.alloc _) rfl (by exact HX.out) (by intro u hu;simp at hu;rcases hu with rfl | rfl<;>rfl) (by omega) (by unfold maxLen;omega) ?_;intro v' w6 hs6 hm6 hd6;obtain ⟨g0,g1,g3,g2,g4⟩:=H.out.app (c:=(cx,cy)) HV.out HLN.out HBB.out (HBW.out.alloc HBW.out.size _) hm6 hs6 hd6;obtain ⟨A',cap',rfl,q1,q2⟩:=hs6.form)
  go_ret
  exact ⟨_,by rw [HDL.out];first | (rw [decide_eq_true (by omega)];rfl) | (rw [decide_eq_false (by omega)];rfl),g2,g4⟩)
end Go.Proofs.YthohnjgnpapnoaaGreatDoor
namespace Go.Proofs.YthohnjgnpapnoaaGreatDoor
open Go.RowKit
def closV (ob:Nat):Value:= .func (.func 157) #[] #[.pointer (some ⟨ob,0,none⟩)]
abbrev EX (wb mb B0:Nat):Nat→Prop:=fun b=>WX wb mb b∨B0≤b
def EachPost (w:World) (wb mb p:Nat) (R:ArR) (S:ArS) (A:Nat→Abs) (t ob B0:Nat) (L:List (Int×Int)) (e:Ending) (w':World):Prop:=
 ∃(K:List Int) (m:Int→Int) (V:Value),e= .returned (.bool (decide (L.length≤4096)))∧Wk w' wb mb p R S A t 0 K m∧OutI w' ob B0 V (L.take 4097)∧StepH (EX wb mb B0) p R R w w'
structure Newer (wb mb p:Nat) (R:ArR) (B0:Nat):Prop where
 o:∀b,Own p R b→b<B0
 w:wb<B0
 m:mb<B0
def EachOk (P:Int→Int→Bool) (n:Nat):Prop:=∀(w:World) (wb mb p:Nat) (R:ArR) (S:ArS) (A:Nat→Abs) (t:Nat) (K:List Int) (m:Int→Int) (ob B0:Nat) (V:Value) (L:List (Int×Int)),Wk w wb mb p R S A t 0 K m→OutI w ob B0 V L→Newer wb mb p R B0→B0≤w.heap.size→
 ∀(id x y:Int),Has S A t id (treeOf P n x y)→-35184372088832≤x∧x+2^n≤35184372088832→-35184372088832≤y∧y+2^n≤35184372088832→L.length≤4096→
 Calls Tryz.prog 156 #[.pointer (some ⟨wb,0,none⟩),.int .i64 id,.int .i64 x,.int .i64 y,.int .i64 n,closV ob] w (EachPost w wb mb p R S A t ob B0 (L++cellsT P n x y))
theorem enters_clos:∀args w,(callFunc 157 args).run Tryz.prog w= .ok (.enter 157 args) w:=enters_of Tryz.func157 (by kernel_rfl) rfl
section
variable {w w1 : World} {wb mb p t ob B0 : Nat} {R : ArR} {S : ArS} {A : Nat → Abs} {K K' : List Int} {m m' : Int → Int} {V : Value} {L : List (Int × Int)}
theorem OutI.walk (h:OutI w ob B0 V L) (hN:Newer wb mb p R B0) (hs:StepH (WX wb mb) p R R w w1):OutI w1 ob B0 V L:=
 h.mod hs.mod fun b hb ho=>by
  rcases ho with ho | ho | ho
  ·have:=hN.o b ho;omega
  ·have:=hN.w;omega
  ·have:=hN.m;omega
theorem Wk.clos (h:Wk w wb mb p R S A t 0 K m) (hN:Newer wb mb p R B0) (hm:Mod (fun b=>B0≤b) w w1):Wk w1 wb mb p R S A t 0 K m:=
 ⟨h.hd.keep hm (fun b hb ho=>by have:=hN.o b hb;omega) (fun ho=>by have:=hN.w;omega),h.map.mod hm (fun ho=>by have:=hN.m;omega),h.no,h.nodup,h.memo,h.none⟩
end
set_option maxRecDepth 100000 in
set_option maxHeartbeats 3200000 in
theorem each_blank (P:Int→Int→Bool) (n:Nat) (w:World) (wb mb p:Nat) (R:ArR) (S:ArS) (A:Nat→Abs) (t:Nat) (K:List Int) (m:Int→Int) (ob B0:Nat) (V:Value) (L:List (Int×Int)) (hw:Wk w wb mb p R S A t 0 K m) (ho:OutI w ob B0 V L) (hN:Newer wb mb p R B0) (id x y:Int) (hT:Has S A t id (treeOf P n x y)) (hb:blankT (treeOf P n x y)=true) (hl:L.length≤4096):
 Calls Tryz.prog 156 #[.pointer (some ⟨wb,0,none⟩),.int .i64 id,.int .i64 x,.int .i64 y,.int .i64 n,closV ob] w (EachPost w wb mb p R S A t ob B0 (L++cellsT P n x y)):=by
 rw [cellsT_blank hb,List.append_nil]
 have HDL:Hid (decide (L.length≤4096)=true∧L.take 4097=L):=⟨decide_eq_true hl,List.take_of_length_le (by omega)⟩
 have HE:=Lib.hid (wempty_any (treeOf P n x y) w wb mb p R S A t K m hw id hT)
 have HB:=Lib.hid hb
 have HO:=Lib.hid ho
 have HN:=Lib.hid hN
 have c2:w.cell? ⟨wb,2,none⟩=some (.int .i64 0):=hw.hd.c2
 unfold closV
 clear hw ho hN hT hb hl
 go_enter Tryz.func156,Tryz.ntmps156
 go_wp2_with fail
 (with_reducible refine HE.out.mono ?_)
 rintro e w1 ⟨K1,m1,rfl,hw1,hs1⟩
 rw [HB.out]
 go_wp2_with fail
 go_ret
 exact ⟨K1,m1,V,by rw [HDL.out.1];rfl,hw1,by rw [HDL.out.2];exact HO.out.walk HN.out hs1,hs1.wide fun b _ e=> .inl e⟩
set_option maxRecDepth 100000 in
set_option maxHeartbeats 3200000 in
theorem each_zero (P:Int→Int→Bool):EachOk P 0:=by
 intro w wb mb p R S A t K m ob B0 V L hw ho hN hB id x y hT hx hy hl
 cases hb:blankT (treeOf P 0 x y)
 ·have hP:P x y=true:=by
   simp only [treeOf] at hb
   cases hp:P x y
   ·rw [hp] at hb;simp [blankT] at hb
   ·rfl
  have hc:cellsT P 0 x y= [(x,y)]:=by simp [cellsT,hP]
  rw [hc]
  have HE:=Lib.hid (wempty_any (treeOf P 0 x y) w wb mb p R S A t K m hw id hT)
  have HBL:=Lib.hid hb
  have HO:=Lib.hid ho
  have HN:=Lib.hid hN
  have HB:=Lib.hid hB
  have HL:=Lib.hid hl
  have HTK:Hid ((L++ [(x,y)]).take 4097=L++ [(x,y)]):=by show _=_;exact List.take_of_length_le (by rw [List.length_append,List.length_singleton];omega)
  have c2:w.cell? ⟨wb,2,none⟩=some (.int .i64 0):=hw.hd.c2
  have HEN:=enters_clos
  unfold closV
  clear hw ho hN hT hb hP hc hl hB hx hy
  go_enter Tryz.func156,Tryz.ntmps156
  go_wp2_with fail
  (with_reducible refine HE.out.mono ?_)
  rintro e w1 ⟨K1,m1,rfl,hw1,hs1⟩
  rw [HBL.out]
  have HW1:=Lib.hid hw1
  have HS1:=Lib.hid hs1
  have HC:=Lib.hid (clos_any w1 ob B0 V L (HO.out.walk HN.out hs1) (Nat.le_trans HB.out hs1.mod.size) HL.out x y)
  clear hw1 hs1 c2
  go_wp2_with fail
  (with_reducible refine HC.out.mono ?_)
  rintro e w2 ⟨V2,rfl,ho2,hm2⟩
  have HF:Hid (EachPost w wb mb p R S A t ob B0 (L++ [(x,y)]) (.returned (.bool (decide ((L++ [(x,y)]).length≤4096)))) w2):=⟨K1,m1,V2,rfl,HW1.out.clos HN.out hm2,by rw [HTK.out];exact ho2,(HS1.out.wide fun b _ e=> .inl e).trans ⟨hm2.mono fun b _ e=> .inr (.inr e),fun _ h=> .inl h⟩⟩
  clear ho2 hm2 HC
  generalize decide ((L++ [(x,y)]).length≤4096)=bb at HF ⊢
  go_wp2_with fail
  go_ret
  exact HF.out
 ·exact each_blank P 0 w wb mb p R S A t K m ob B0 V L hw ho hN id x y hT hb hl
def upC (P:Int→Int→Bool) (n:Nat) (x y:Int):Nat→List (Int×Int)
 | 0=>[]
 | j+1=>upC P n x y j++cellsT P n (gx (2^n) x j) (gy (2^n) y j)
theorem upC_four (P:Int→Int→Bool) (n:Nat) (x y:Int):upC P n x y 4=cellsT P (n+1) x y:=by simp [upC,cellsT]
theorem upC_more (P:Int→Int→Bool) (n:Nat) (x y:Int):∀(d j:Nat),∃M,upC P n x y (j+d)=upC P n x y j++M
 | 0,_=>⟨[],by simp⟩
 | d+1,j=>by
   obtain ⟨M,h⟩:=upC_more P n x y d j
   exact ⟨M++cellsT P n (gx (2^n) x (j+d)) (gy (2^n) y (j+d)),by show upC P n x y (j+d)++_=_;rw [h,List.append_assoc];rfl⟩
theorem upC_cut (P:Int→Int→Bool) (n:Nat) (x y:Int) {L:List (Int×Int)} {j:Nat} (hj:j≤4) (h:¬(L++upC P n x y j).length≤4096):decide ((L++upC P n x y 4).length≤4096)=false∧(L++upC P n x y 4).take 4097=(L++upC P n x y j).take 4097:=by
 obtain ⟨M,e⟩:=upC_more P n x y (4-j) j
 rw [show j+(4-j)=4 by omega] at e
 rw [e,←List.append_assoc]
 refine ⟨decide_eq_false ?_,?_⟩
 ·rw [List.length_append];omega
 ·rw [List.take_append_of_le_length (by omega)]
set_option maxRecDepth 100000 in
set_option maxHeartbeats 3200000 in
theorem each_more (P:Int→Int→Bool) (n:Nat) (hn:n+1≤44) (ih:EachOk P n):EachOk P (n+1):=by
 intro w wb mb p R S A t K m ob B0 V L hw ho hN hB id x y hT hx hy hl
 cases hb:blankT (treeOf P (n+1) x y)
 ·have HE:=Lib.hid (wempty_any (treeOf P (n+1) x y) w wb mb p R S A t K m hw id hT)
  have HBL:=Lib.hid hb
  have HO:=Lib.hid ho
  have HN:=Lib.hid hN
  have HB:=Lib.hid hB
  have HT:=Lib.hid hT
  have HXY:=Lib.hid (And.intro hx hy)
  have HL:=Lib.hid hl
  have c2:w.cell? ⟨wb,2,none⟩=some (.int .i64 0):=hw.hd.c2
  have hp1:=pow_i64 (n:=n) (by omega)
  have hp2:=pow_pos2 n
  have hn0:((n:Int)+1==0)=false:=by simp;omega
  obtain ⟨hx1,hx2⟩:=hx
  obtain ⟨hy1,hy2⟩:=hy
  rw [Int.pow_succ] at hx2 hy2
  have hx3:x+2^n≤35184372088832:=by omega
  have hy3:y+2^n≤35184372088832:=by omega
  have HNN:=Lib.hid hn
  have hnb:(n:Int)≤43:=by omega
  unfold closV
  rw [←upC_four,show ((n+1:Nat):Int)=(n:Int)+1 by omega]
  clear hw ho hN hT hb hl hB hx2 hy2 hn
  go_enter Tryz.func156,Tryz.ntmps156
  go_wp2_with fail
  (with_reducible refine HE.out.mono ?_)
  rintro e w1 ⟨K1,m1,rfl,hw1,hs1⟩
  rw [HBL.out]
  have HW1:=Lib.hid hw1
  have HS1:Hid (StepH (EX wb mb B0) p R R w w1):=hs1.wide fun b _ e=> .inl e
  have HO1:=Lib.hid (HO.out.walk HN.out hs1)
  have HKD:=Lib.hid (hkids_any w1 wb WT [.map (some mb)] p R S A t 0 hw1.hd id _ _ _ _ (fun _=>by rw [←subT_all];exact HT.out))
  clear hw1 hs1 c2
  go_wp2_with fail
  (with_reducible refine HKD.out.mono ?_)
  rintro e w2 ⟨k0,k1,k2,k3,rfl,hkh,_,hd2,hs2⟩
  obtain ⟨g0,g1,g2,g3⟩:=hkh rfl
  have HQ:Hid (∀j,j<4→Has S A t (qAt k0 k1 k2 k3 j) (subT P n x y j)):=fun j hj=>by
   rcases four_cases hj with rfl | rfl | rfl | rfl<;>assumption
  have HW2:=Lib.hid (HW1.out.hand hd2 hs2 (St.refl HW1.out.hd.rel t))
  have hs2':StepH (WX wb mb) p R R w1 w2:=hs2.wide fun b _ e=> .inl e
  have HO2:=Lib.hid (HO1.out.walk HN.out hs2')
  have HS2:Hid (StepH (EX wb mb B0) p R R w w2):=HS1.out.trans (hs2'.wide fun b _ e=> .inl e)
  clear hkh hd2 hs2 hs2' g0 g1 g2 g3 HKD HE
  go_wp2_with fail
  go_loopw [43] (fun jv wx=>∃(j:Nat) (K':List Int) (m':Int→Int) (V':Value),jv= .int .i64 j∧j≤4∧Wk wx wb mb p R S A t 0 K' m'∧OutI wx ob B0 V' (L++upC P n x y j)∧(L++upC P n x y j).length≤4096∧StepH (EX wb mb B0) p R R w wx) (fun jv _=>4-(intOf jv).toNat)
  case atStart=>exact ⟨0,K1,m1,V,rfl,Nat.zero_le _,HW2.out,by simpa [upC] using HO2.out,by simpa [upC] using HL.out,HS2.out⟩
  case round=>
   obtain ⟨j,K',m',V',rfl,hj,hW,hO,hLL,hS⟩:=hrel
   have HWR:=Lib.hid hW
   have HOR:=Lib.hid hO
   have HSR:=Lib.hid hS
   have HLL:=Lib.hid hLL
   clear hW hO hS hLL
   by_cases hj4:j<4
   ·have hq:=fun w=>idx4 k0 k1 k2 k3 j hj4 w
    have hi:=ih wr wb mb p R S A t K' m' ob B0 V' _ HWR.out HOR.out HN.out (Nat.le_trans HB.out HSR.out.mod.size) (qAt k0 k1 k2 k3 j) (gx (2^n) x j) (gy (2^n) y j) (HQ.out j hj4) (gx_bd j HXY.out.1) (gy_bd j HXY.out.2) HLL.out
    rw [List.append_assoc] at hi
    change Calls _ _ _ _ (EachPost wr wb mb p R S A t ob B0 (L++upC P n x y (j+1))) at hi
    have HI:=Lib.hid hi
    clear hi hj
    rcases four_cases hj4 with rfl | rfl | rfl | rfl
    all_goals clear hj4
    ·have HI5:Hid (Calls Tryz.prog 156 #[.pointer (some ⟨wb,0,none⟩),.int .i64 (qAt k0 k1 k2 k3 0),.int .i64 x,.int .i64 y,.int .i64 n,.func (.func 157) #[] #[.pointer (some ⟨ob,0,none⟩)]] wr (EachPost wr wb mb p R S A t ob B0 (L++upC P n x y (0+1)))):=HI.out
     have hqa:∀w,(Instr.index 22 (.agg #[.int .i64 k0,.int .i64 k1,.int .i64 k2,.int .i64 k3]) (.int .i64 0)).run Tryz.prog w= .ok (.int .i64 (qAt k0 k1 k2 k3 0)) w:=hq
     clear hq
     clear HI
     go_wp2_with fail
     (with_reducible refine HI5.out.mono ?_)
     rintro e w3 ⟨K3,m3,V3,rfl,hw3,ho3,hs3⟩
     by_cases hfin:(L++upC P n x y (0+1)).length≤4096
     ·rw [decide_eq_true hfin]
      rw [List.take_of_length_le (by omega)] at ho3
      have HFN:=Lib.hid hfin
      have HW3:=Lib.hid hw3
      have HO3:=Lib.hid ho3
      have HS3:=Lib.hid (HSR.out.trans hs3)
      clear hw3 ho3 hs3 HI5 hfin
      go_wp2_with fail
      go_roundw
      case rel=>exact ⟨1,K3,m3,V3,by go_num,by decide,HW3.out,HO3.out,HFN.out,HS3.out⟩
      case measure=>simp [intOf]
     ·rw [decide_eq_false hfin]
      obtain ⟨u1,u2⟩:=upC_cut P n x y (j:=0+1) (by decide) hfin
      rw [←u2] at ho3
      have HFN:Hid (EachPost w wb mb p R S A t ob B0 (L++upC P n x y 4) (.returned (.bool false)) w3):=⟨K3,m3,V3,by rw [u1],hw3,ho3,HSR.out.trans hs3⟩
      clear hw3 ho3 hs3 HI5 hfin u1 u2
      go_wp2_with fail
      go_returns
      exact HFN.out
    ·have HI5:Hid (Calls Tryz.prog 156 #[.pointer (some ⟨wb,0,none⟩),.int .i64 (qAt k0 k1 k2 k3 1),.int .i64 (x+2^n),.int .i64 y,.int .i64 n,.func (.func 157) #[] #[.pointer (some ⟨ob,0,none⟩)]] wr (EachPost wr wb mb p R S A t ob B0 (L++upC P n x y (1+1)))):=HI.out
     have hqa:∀w,(Instr.index 22 (.agg #[.int .i64 k0,.int .i64 k1,.int .i64 k2,.int .i64 k3]) (.int .i64 1)).run Tryz.prog w= .ok (.int .i64 (qAt k0 k1 k2 k3 1)) w:=hq
     clear hq
     clear HI
     go_wp2_with fail
     (with_reducible refine HI5.out.mono ?_)
     rintro e w3 ⟨K3,m3,V3,rfl,hw3,ho3,hs3⟩
     by_cases hfin:(L++upC P n x y (1+1)).length≤4096
     ·rw [decide_eq_true hfin]
      rw [List.take_of_length_le (by omega)] at ho3
      have HFN:=Lib.hid hfin
      have HW3:=Lib.hid hw3
      have HO3:=Lib.hid ho3
      have HS3:=Lib.hid (HSR.out.trans hs3)
      clear hw3 ho3 hs3 HI5 hfin
      go_wp2_with fail
      go_roundw
      case rel=>exact ⟨2,K3,m3,V3,by go_num,by decide,HW3.out,HO3.out,HFN.out,HS3.out⟩
      case measure=>simp [intOf]
     ·rw [decide_eq_false hfin]
      obtain ⟨u1,u2⟩:=upC_cut P n x y (j:=1+1) (by decide) hfin
      rw [←u2] at ho3
      have HFN:Hid (EachPost w wb mb p R S A t ob B0 (L++upC P n x y 4) (.returned (.bool false)) w3):=⟨K3,m3,V3,by rw [u1],hw3,ho3,HSR.out.trans hs3⟩
      clear hw3 ho3 hs3 HI5 hfin u1 u2
      go_wp2_with fail
      go_returns
      exact HFN.out
    ·have HI5:Hid (Calls Tryz.prog 156 #[.pointer (some ⟨wb,0,none⟩),.int .i64 (qAt k0 k1 k2 k3 2),.int .i64 x,.int .i64 (y+2^n),.int .i64 n,.func (.func 157) #[] #[.pointer (some ⟨ob,0,none⟩)]] wr (EachPost wr wb mb p R S A t ob B0 (L++upC P n x y (2+1)))):=HI.out
     have hqa:∀w,(Instr.index 22 (.agg #[.int .i64 k0,.int .i64 k1,.int .i64 k2,.int .i64 k3]) (.int .i64 2)).run Tryz.prog w= .ok (.int .i64 (qAt k0 k1 k2 k3 2)) w:=hq
     clear hq
     clear HI
     go_wp2_with fail
     (with_reducible refine HI5.out.mono ?_)
     rintro e w3 ⟨K3,m3,V3,rfl,hw3,ho3,hs3⟩
     by_cases hfin:(L++upC P n x y (2+1)).length≤4096
     ·rw [decide_eq_true hfin]
      rw [List.take_of_length_le (by omega)] at ho3
      have HFN:=Lib.hid hfin
      have HW3:=Lib.hid hw3
      have HO3:=Lib.hid ho3
      have HS3:=Lib.hid (HSR.out.trans hs3)
      clear hw3 ho3 hs3 HI5 hfin
      go_wp2_with fail
      go_roundw
      case rel=>exact ⟨3,K3,m3,V3,by go_num,by decide,HW3.out,HO3.out,HFN.out,HS3.out⟩
      case measure=>simp [intOf]
     ·rw [decide_eq_false hfin]
      obtain ⟨u1,u2⟩:=upC_cut P n x y (j:=2+1) (by decide) hfin
      rw [←u2] at ho3
      have HFN:Hid (EachPost w wb mb p R S A t ob B0 (L++upC P n x y 4) (.returned (.bool false)) w3):=⟨K3,m3,V3,by rw [u1],hw3,ho3,HSR.out.trans hs3⟩
      clear hw3 ho3 hs3 HI5 hfin u1 u2
      go_wp2_with fail
      go_returns
      exact HFN.out
    ·have HI5:Hid (Calls Tryz.prog 156 #[.pointer (some ⟨wb,0,none⟩),.int .i64 (qAt k0 k1 k2 k3 3),.int .i64 (x+2^n),.int .i64 (y+2^n),.int .i64 n,.func (.func 157) #[] #[.pointer (some ⟨ob,0,none⟩)]] wr (EachPost wr wb mb p R S A t ob B0 (L++upC P n x y (3+1)))):=HI.out
     have hqa:∀w,(Instr.index 22 (.agg #[.int .i64 k0,.int .i64 k1,.int .i64 k2,.int .i64 k3]) (.int .i64 3)).run Tryz.prog w= .ok (.int .i64 (qAt k0 k1 k2 k3 3)) w:=hq
     clear hq
     clear HI
     go_wp2_with fail
     (with_reducible refine HI5.out.mono ?_)
     rintro e w3 ⟨K3,m3,V3,rfl,hw3,ho3,hs3⟩
     by_cases hfin:(L++upC P n x y (3+1)).length≤4096
     ·rw [decide_eq_true hfin]
      rw [List.take_of_length_le (by omega)] at ho3
      have HFN:=Lib.hid hfin
      have HW3:=Lib.hid hw3
      have HO3:=Lib.hid ho3
      have HS3:=Lib.hid (HSR.out.trans hs3)
      clear hw3 ho3 hs3 HI5 hfin
      go_wp2_with fail
      go_roundw
      case rel=>exact ⟨4,K3,m3,V3,by go_num,by decide,HW3.out,HO3.out,HFN.out,HS3.out⟩
      case measure=>simp [intOf]
     ·rw [decide_eq_false hfin]
      obtain ⟨u1,u2⟩:=upC_cut P n x y (j:=3+1) (by decide) hfin
      rw [←u2] at ho3
      have HFN:Hid (EachPost w wb mb p R S A t ob B0 (L++upC P n x y 4) (.returned (.bool false)) w3):=⟨K3,m3,V3,by rw [u1],hw3,ho3,HSR.out.trans hs3⟩
      clear hw3 ho3 hs3 HI5 hfin u1 u2
      go_wp2_with fail
      go_returns
      exact HFN.out
   ·have hj5:j=4:=by omega
    subst hj5
    clear hj hj4
    go_wp2_with fail
    go_ret
    exact ⟨K',m',V',by rw [decide_eq_true HLL.out];rfl,HWR.out,by rw [List.take_of_length_le (by have:=HLL.out;omega)];exact HOR.out,HSR.out⟩
 ·exact each_blank P (n+1) w wb mb p R S A t K m ob B0 V L hw ho hN id x y hT hb hl
theorem each_any (P:Int→Int→Bool) (n:Nat) (hn:n≤44):EachOk P n:=by
 induction n with
 | zero=>exact each_zero P
 | succ n ih=>exact each_more P n hn (ih (by omega))
end Go.Proofs.YthohnjgnpapnoaaGreatDoor
namespace Go.Proofs.YthohnjgnpapnoaaGreatDoor
open Go.RowKit
def CellsPost (w:World) (p:Nat) (R:ArR) (S:ArS) (A:Nat→Abs) (l:List (Int×Int)) (e:Ending) (w':World):Prop:=
 ∃q m s,e= .returned (.tuple #[.slice q m m,.int .i64 0])∧Tid l s∧Sl w' 109 2 (.slice q m m) m (flat s)∧(∀b,sblk (.slice q m m)=some b→w.heap.size≤b∧¬Own p R b)∧Ar w' p R S A∧StepH NoX p R R w w'
def CellsAll (w:World) (p:Nat) (R:ArR) (S:ArS) (A:Nat→Abs) (l:List (Int×Int)) (e:Ending) (w':World):Prop:=
 (l.length≤4096→CellsPost w p R S A l e w')∧(4096<l.length→e= .returned (.tuple #[.slice none 0 0,.int .i64 5])∧Ar w' p R S A∧StepH NoX p R R w w')
set_option maxRecDepth 100000 in
set_option maxHeartbeats 3200000 in
theorem cells_all (w:World) (p:Nat) (R:ArR) (S:ArS) (A:Nat→Abs) (h:Ar w p R S A) (t:Nat) (ht:t<64) (P:Int→Int→Bool) (k:Nat) (hk:k≤43) (root:Int) (hr:Has S A t root (rootT P k)) (hok:∀c∈cellsT P (k+1) (-2^k) (-2^k),okC c):
 Calls Tryz.prog 110 #[.pointer (some ⟨p,0,none⟩),.int .i64 t,.int .i64 root] w (CellsAll w p R S A (cellsT P (k+1) (-2^k) (-2^k))):=by
 have hp1:=pow_i64 (n:=k) (by omega)
 have hp2:=pow_pos2 k
 have hp43:(2:Int)^k≤8796093022208:=by
  have h1:=Nat.pow_le_pow_right (n:=2) (by decide) hk
  have h2:((2^k:Nat):Int)≤((2^43:Nat):Int):=Int.ofNat_le.2 h1
  rw [show (2:Nat)^43=8796093022208 by decide] at h2
  simpa using h2
 have HK43:=Lib.hid hk
 have HR:=Lib.hid hr
 have HW:=Lib.hid (walk_any w p R S A h t ht)
 have HOK:=Lib.hid hok
 have H:=Lib.hid h
 have hkb:(k:Int)≤43:=by omega
 clear h hr hk ht hok
 go_enter Tryz.func110,Tryz.ntmps110
 go_wp2_with fail
 (with_reducible refine HW.out.mono ?_)
 rintro e w1 ⟨wb,mb,rfl,hw1,hb1,hl1,hl2⟩
 have HW1:=Lib.hid hw1
 have HB1:=Lib.hid hb1
 have HL1:=Lib.hid (And.intro hl1 hl2)
 have HV:=Lib.hid (hlevel_any w1 wb WT [.map (some mb)] p R S A t 0 hw1.hd root (rootT P k) (fun _=>HR.out))
 clear hw1 hb1 hl1 hl2 HW
 go_wp2_with fail
 (with_reducible refine HV.out.mono ?_)
 rintro e w2 ⟨lv,rfl,hlv,hd2,hs2⟩
 have hlv2:=hlv rfl
 rw [rootT_lvl] at hlv2
 subst hlv2
 have HW2:=Lib.hid (HW1.out.hand hd2 hs2 (St.refl HW1.out.hd.rel t))
 have HS2:Hid (StepH (WX wb mb) p R R w1 w2):=hs2.wide fun b _ e=> .inl e
 have c2:=HW2.out.hd.c2
 have hk0:((k:Int)+1==0)=false:=by rw [beq_eq_false_iff_ne];omega
 have HB2:Hid (Below w2.heap.size w2 (w2.alloc (.cells #[.slice none 0 0] 55))):=(Below.refl _ _).alloc (Nat.le_refl _) _
 have HW3:=Lib.hid (HW2.out.below HB2.out)
 have HO3:Hid (OutI (w2.alloc (.cells #[.slice none 0 0] 55)) w2.heap.size w2.heap.size (.slice none 0 0) []):=⟨Blk.new w2 _ _,Sl.nil _ _ _,Nat.le_refl _,fun b hb=>by simp [sblk] at hb⟩
 have HN:Hid (Newer wb mb p R w2.heap.size):=⟨fun b hb=>HW2.out.hd.arm.own_lt hb,HW2.out.hd.blk.lt,HW2.out.map.lt⟩
 clear hlv hd2 hs2 HV
 go_wp2_with fail
 clear c2
 generalize hw3:World.alloc w2 _=w3 at HW3 HO3 HB2 ⊢
 have HSZ:Hid (w2.heap.size≤w3.heap.size):=HB2.out.size
 have HLO:Hid (w.heap.size≤w2.heap.size):=Nat.le_trans HB1.out.size HS2.out.mod.size
 have HS3:=Lib.hid (HS2.out.below HB2.out)
 clear hw3
 generalize w2.heap.size=B0 at HO3 HN HSZ HLO ⊢
 (with_reducible refine (half_any w3 k (by omega)).mono ?_)
 rintro e wq ⟨rfl,rfl⟩
 go_wp2_with fail
 (with_reducible refine (half_any w3 k (by omega)).mono ?_)
 rintro e wq ⟨rfl,rfl⟩
 have hpw:(2:Int)^(k+1)=2^k*2:=Int.pow_succ 2 k
 have he:=each_any P (k+1) (by omega) w3 wb mb p R S A t [] (fun _=>0) B0 B0 (.slice none 0 0) [] HW3.out HO3.out HN.out HSZ.out root (-2^k) (-2^k) HR.out ⟨by omega,by omega⟩ ⟨by omega,by omega⟩ (Nat.zero_le _)
 rw [List.nil_append,show ((k+1:Nat):Int)=(k:Int)+1 by omega] at he
 unfold closV at he
 have HE:=Lib.hid he
 clear he hpw
 go_wp2_with fail
 (with_reducible refine HE.out.mono ?_)
 rintro e w4 ⟨K4,m4,V4,rfl,hw4,ho4,hs4⟩
 by_cases hfew:(cellsT P (k+1) (-2^k) (-2^k)).length≤4096
 ·rw [decide_eq_true hfew]
  rw [List.take_of_length_le (by omega)] at ho4
  obtain ⟨vA,vcap,hV,hv1,hv2⟩:=ho4.sl.form
  have c0:w4.cell? ⟨B0,0,none⟩=some (.slice vA (cellsT P (k+1) (-2^k) (-2^k)).length vcap):=(ho4.blk.cellS rfl).trans (congrArg some hV)
  have HSL:=Lib.hid ho4.sl
  rw [hV] at HSL
  have c2:=hw4.hd.c2
  have HW4:=Lib.hid hw4
  have HS4:=Lib.hid ((HS3.out.wide fun b _ e=> .inl e:StepH (EX wb mb B0) p R R w1 w3).trans hs4)
  clear hw4 ho4 hs4 hV HE
  have HL:=Lib.hid hfew
  clear hfew
  generalize hLN:(cellsT P (k+1) (-2^k) (-2^k)).length=n at c0 HSL HL
  have HLN:=Lib.hid hLN
  clear hLN
  go_wp2_with fail
  have HT:=Lib.hid (tidy_ok w4 w4.heap.size n _ _ HSL.out.rd (Nat.le_refl _) HL.out HOK.out)
  (with_reducible refine HT.out.mono ?_)
  rintro e w5 ⟨q,m5,s5,rfl,ht5,hs5,hf5,hb5⟩
  have HF:Hid (CellsAll w p R S A (cellsT P (k+1) (-2^k) (-2^k)) (.returned (.tuple #[.slice q m5 m5,.int .i64 0])) w5):=
   ⟨fun _=>⟨q,m5,s5,rfl,ht5,hs5,fun b hb=>(by
    have h1:=hf5 b hb
    have h2:=HS4.out.mod.size
    have h3:=HB1.out.size
    refine ⟨by omega,fun ho=>?_⟩
    have:=H.out.arm.own_lt ho;omega),(HW4.out.hd.below hb5).ar,(((StepH.of_below HB1.out).trans HS4.out).wide fun b hb e=>by
    have h1:=HL1.out
    have h2:=HLO.out
    rcases e with (e | e) | e
    ·omega
    ·omega
    ·omega).below hb5⟩,fun h=>(by have e1:=HLN.out;have e2:=HL.out;have e1:_=n:=e1;have e2:n≤4096:=e2;omega)⟩
  clear ht5 hs5 hf5 hb5 HT c0 c2
  go_wp2_with fail
  go_returns
  exact HF.out
 ·rw [decide_eq_false hfew]
  have HF:Hid (CellsAll w p R S A (cellsT P (k+1) (-2^k) (-2^k)) (.returned (.tuple #[.slice none 0 0,.int .i64 5])) w4):=
   ⟨fun h=>absurd h hfew,fun _=>⟨rfl,hw4.hd.ar,((StepH.of_below HB1.out).trans ((HS3.out.wide fun b _ e=> .inl e:StepH (EX wb mb B0) p R R w1 w3).trans hs4)).wide fun b hb e=>by
    have h1:=HL1.out
    have h2:=HLO.out
    rcases e with (e | e) | e
    ·omega
    ·omega
    ·omega⟩⟩
  have c2:=hw4.hd.c2
  clear hw4 ho4 hs4 HE hfew
  go_wp2_with fail
  go_returns
  exact HF.out
end Go.Proofs.YthohnjgnpapnoaaGreatDoor
namespace Go.Proofs.YthohnjgnpapnoaaGreatDoor
open Go.RowKit
section
variable {S0 S1 S3 S5 : ArS} {A0 A1 A3 A5 : Nat → Abs} {t : Nat} {Tl Tm : Tree} {p q r : Int}
def markS (S:ArS) (t:Nat):ArS:={S with added:=upd S.added t []}
def markA (A:Nat→Abs) (t:Nat):Nat→Abs:=upd A t ⟨(A t).have_,[]⟩
def undoA (A:Nat→Abs) (t:Nat):Nat→Abs:=upd A t ⟨restL (A t),[]⟩
theorem markS_add {S:ArS} {A:Nat→Abs} (h:Rel S A) (ha:∀u,u<64→((S.added u).length:Int)≤S.count u):∀u,u<64→(((markS S t).added u).length:Int)≤(markS S t).count u:=fun u hu=>by
 show ((upd S.added t [] u).length:Int)≤S.count u
 by_cases e:u=t
 ·subst e;rw [upd_same];exact (h.inv.cnt_le hu).1
 ·rw [upd_ne _ _ e];exact ha u hu
theorem undoS_add {S:ArS} {A:Nat→Abs} (h:Rel S A) (ht:t<64) (ha:∀u,u<64→((S.added u).length:Int)≤S.count u):∀u,u<64→(((undoS S t).added u).length:Int)≤(undoS S t).count u:=fun u hu=>by
 have hr:=(h.undo ht).1
 show ((upd S.added t [] u).length:Int)≤(undoS S t).count u
 by_cases e:u=t
 ·subst e;rw [upd_same];exact (hr.inv.cnt_le hu).1
 ·rw [upd_ne _ _ e,hr.count hu,upd_ne _ _ e,←h.count hu];exact ha u hu
end
end Go.Proofs.YthohnjgnpapnoaaGreatDoor
namespace Go.Proofs.YthohnjgnpapnoaaGreatDoor
open Go.RowKit
structure HStep (h p:Nat) (R:ArR) (wv kv:Value) (R':ArR) (wv' kv':Value) (w w':World):Prop where
 mod:Mod (fun b=>Own p R b∨b=h∨sblk wv=some b) w w'
 own:∀b,Own p R' b→Own p R b∨w.heap.size≤b
 nw:∀b,sblk wv'=some b→sblk wv=some b∨w.heap.size≤b
 nk:∀b,sblk kv'=some b→sblk kv=some b∨w.heap.size≤b
structure Oth (t:Nat) (S:ArS) (A:Nat→Abs) (S':ArS) (A':Nat→Abs):Prop where
 oth:∀u,u≠t→A' u=A u
 stay:∀u,u<64→u≠t→∀x id,hasT (A u).have_ x=true→Den S id x→Den S' id x
 quota:S'.quota=S.quota
 room:S'.room=S.room
section
variable {w w1 w' : World} {h p t : Nat} {R R1 R' : ArR} {S S1 S' : ArS} {A A1 A' : Nat → Abs} {d : Int} {Ws Ws1 : List WD} {wv wv1 wv' : Value} {ser : Nat} {K K1 : List KeyD} {kv kv1 kv' : Value}
theorem HStep.refl (h p:Nat) (R:ArR) (wv kv:Value) (w:World):HStep h p R wv kv R wv kv w w:=⟨Mod.refl _ _,fun _ h=> .inl h,fun _ h=> .inl h,fun _ h=> .inl h⟩
theorem HStep.trans (a:HStep h p R wv kv R1 wv1 kv1 w w1) (b:HStep h p R1 wv1 kv1 R' wv' kv' w1 w'):HStep h p R wv kv R' wv' kv' w w':=by
 have hsz:=a.mod.size
 refine ⟨a.mod.trans b.mod fun k hk ho=>?_,fun k ho=>?_,fun k ho=>?_,fun k ho=>?_⟩
 ·rcases ho with ho | ho | ho
  ·rcases a.own k ho with q | q
   ·exact .inl q
   ·omega
  ·exact .inr (.inl ho)
  ·rcases a.nw k ho with q | q
   ·exact .inr (.inr q)
   ·omega
 ·rcases b.own k ho with q | q
  ·exact a.own k q
  ·exact .inr (by omega)
 ·rcases b.nw k ho with q | q
  ·exact a.nw k q
  ·exact .inr (by omega)
 ·rcases b.nk k ho with q | q
  ·exact a.nk k q
  ·exact .inr (by omega)
theorem HStep.arena (hs:StepH NoX p R R' w w'):HStep h p R wv kv R' wv kv w w':=
 ⟨hs.mod.mono fun _ _ ho=>ho.elim .inl fun q=>q.elim,hs.own,fun _ h=> .inl h,fun _ h=> .inl h⟩
theorem HStep.below (a:HStep h p R wv kv R' wv' kv' w w1) (hb:Below w1.heap.size w1 w'):HStep h p R wv kv R' wv' kv' w w':=
 a.trans (HStep.arena (StepH.of_below hb))
theorem Oth.refl (t:Nat) (S:ArS) (A:Nat→Abs):Oth t S A S A:=⟨fun _ _=>rfl,fun _ _ _ _ _ _ h=>h,rfl,rfl⟩
theorem Oth.trans (a:Oth t S A S1 A1) (b:Oth t S1 A1 S' A'):Oth t S A S' A':=
 ⟨fun u hu=>(b.oth u hu).trans (a.oth u hu),fun u hu hne x id hx hd=>b.stay u hu hne x id (by rw [a.oth u hne];exact hx) (a.stay u hu hne x id hx hd),b.quota.trans a.quota,b.room.trans a.room⟩
theorem St.toOth (h:St t S A S' A'):Oth t S A S' A':=⟨h.oth,fun u hu _ x id hx hd=>h.stay u hu x id hx hd,h.quota,h.room⟩
theorem Rd.stepX {T:Nat→Prop} {sz n:Nat} {v:Value} {xs:List Value} (h:Rd w w.heap.size sz v n xs) (hm:Mod T w w') (hT:∀b,sblk v=some b→b<w.heap.size→¬T b):Rd w' w'.heap.size sz v n xs:=by
 have hsz:=hm.size
 obtain ⟨h1,A,cap,rfl,h2,h3,h4⟩:=h
 refine ⟨h1,A,cap,rfl,h2,h3,fun hn=>?_⟩
 obtain ⟨b,off,rfl,hb,hc⟩:=h4 hn
 exact ⟨b,off,rfl,by omega,fun j u hj=>(hm.cell (a:=⟨b,off+j,none⟩) hb (hT b rfl hb)).trans (hc j u hj)⟩
theorem WOk.st {x:WD} (h:WOk S A t x) (ht:t<64) (hst:St t S A S' A'):WOk S' A' t x:=⟨h.has.st ht hst,h.k1,h.k40,h.supp,h.ok,h.rule,h.named⟩
theorem Hl.arena (H:Hl w h p R S A t d Ws wv ser K kv) (ha:Ar w' p R' S' A') (hs:StepH NoX p R R' w w') (hg:∀x∈Ws,WOk S' A' t x):Hl w' h p R' S' A' t d Ws wv ser K kv where
 ar:=ha
 ht:=H.ht
 blk:=hs.keepX H.blk H.no (fun h=>h)
 no:=hs.not H.blk.lt H.no
 ws:=H.ws.mod hs.mod fun b hb ho=>ho.elim (H.wno b hb).1 fun q=>q
 wno:=fun b hb=>⟨hs.not (H.ws.lt hb).1 (H.wno b hb).1,(H.wno b hb).2⟩
 ks:=H.ks.stepX hs.mod fun b hb _ ho=>ho.elim (H.kno b hb).2.1 fun q=>q
 kno:=fun b hb=>⟨Nat.lt_of_lt_of_le (H.kno b hb).1 hs.mod.size,hs.not (H.kno b hb).1 (H.kno b hb).2.1,(H.kno b hb).2.2⟩
 good:=hg
 nodup:=H.nodup
 len:=H.len
 klen:=H.klen
theorem Hl.grow (H:Hl w h p R S A t d Ws wv ser K kv) (ha:Ar w' p R' S' A') (hs:StepH NoX p R R' w w') (hst:St t S A S' A'):Hl w' h p R' S' A' t d Ws wv ser K kv:=
 H.arena ha hs fun x hx=>(H.good x hx).st H.ht hst
theorem Hl.far {T:Nat→Prop} (H:Hl w h p R S A t d Ws wv ser K kv) (hm:Mod T w w') (h1:∀b,Own p R b→¬T b) (h2:¬T h) (h3:∀b,sblk wv=some b→¬T b) (h4:∀b,sblk kv=some b→¬T b):Hl w' h p R S A t d Ws wv ser K kv where
 ar:=⟨H.ar.arm.keep hm h1,H.ar.rel,H.ar.add⟩
 ht:=H.ht
 blk:=H.blk.mod hm h2
 no:=H.no
 ws:=H.ws.mod hm h3
 wno:=H.wno
 ks:=H.ks.stepX hm fun b hb _=>h4 b hb
 kno:=fun b hb=>⟨Nat.lt_of_lt_of_le (H.kno b hb).1 hm.size,(H.kno b hb).2⟩
 good:=H.good
 nodup:=H.nodup
 len:=H.len
 klen:=H.klen
theorem Hl.new (H:Hl w h p R S A t d Ws wv ser K kv) {b:Nat} (hb:w.heap.size≤b):¬Own p R b∧b≠h∧sblk wv≠some b∧sblk kv≠some b:=
 ⟨fun ho=>by have:=H.ar.arm.own_lt ho;omega,fun e=>by have:=H.blk.lt;omega,fun e=>by have:=(H.ws.lt e).1;omega,fun e=>by have:=(H.kno b e).1;omega⟩
theorem Hl.below (H:Hl w h p R S A t d Ws wv ser K kv) (hb:Below w.heap.size w w'):Hl w' h p R S A t d Ws wv ser K kv:=
 H.arena (H.ar.below hb) (StepH.of_below hb) H.good
end
structure An where
 code:Int
 n:Int
 x0:Int
 y0:Int
 x1:Int
 y1:Int
 b:Int
 l:Int
 key:List UInt8
 cells:List (Int×Int)
def ansV (a:An) (v:Value):Value:= .agg #[.int .i64 a.code,.int .i64 a.n,.int .i64 a.x0,.int .i64 a.y0,.int .i64 a.x1,.int .i64 a.y1,.int .i64 a.b,.int .i64 a.l,.string (str a.key),v]
def anC (a:An) (v:Value):Array Value:=#[.int .i64 a.code,.int .i64 a.n,.int .i64 a.x0,.int .i64 a.y0,.int .i64 a.x1,.int .i64 a.y1,.int .i64 a.b,.int .i64 a.l,.string (str a.key),v]
def An.zero (x:Int):An:=⟨x,0,0,0,0,0,0,0,[],[]⟩
structure HS where
 S:ArS
 A:Nat→Abs
 Ws:List WD
 ser:Nat
 K:List KeyD
def TryP (w:World) (h p:Nat) (R:ArR) (H:HS) (t:Nat) (d:Int) (wv kv:Value) (F:Int→HS→Prop) (G:An→HS→Prop) (e:Ending) (w':World):Prop:=
 ∃(a:An) (v:Value) (x:Int) (H':HS) (wv' kv':Value) (R':ArR),e= .returned (.tuple #[ansV a v,.int .i64 x])∧(∃A n cap,v= .slice A n cap)∧
  Hl w' h p R' H'.S H'.A t d H'.Ws wv' H'.ser H'.K kv'∧HStep h p R wv kv R' wv' kv' w w'∧Oth t H.S H.A H'.S H'.A∧
  (x≠0→St t H.S H.A H'.S H'.A∧H'.Ws=H.Ws∧wv'=wv∧H'.ser=H.ser∧H'.K=H.K∧kv'=kv∧F x H')∧
  (x=0→a.code=0∧G a H'∧Rd w' w'.heap.size 2 v a.cells.length (flat a.cells)∧∀b,sblk v=some b→w.heap.size≤b∧¬Own p R' b∧b≠h∧sblk wv'≠some b)
def DoP (w:World) (h p:Nat) (R:ArR) (H:HS) (t:Nat) (d:Int) (wv kv:Value) (F:Int→HS→Prop) (G:An→HS→Prop) (e:Ending) (w':World):Prop:=
 ∃(a:An) (v:Value) (H':HS) (wv' kv':Value) (R':ArR),e= .returned (ansV a v)∧
  Hl w' h p R' H'.S H'.A t d H'.Ws wv' H'.ser H'.K kv'∧HStep h p R wv kv R' wv' kv' w w'∧Oth t H.S H.A H'.S H'.A∧
  (a.code≠0→a=An.zero a.code∧v= .slice none 0 0∧(∀x,x∈(H'.A t).have_↔x∈(H.A t).have_)∧H'.Ws=H.Ws∧H'.ser=H.ser∧H'.K=H.K∧∃H1,F a.code H1)∧
  (a.code=0→G a H'∧Rd w' w'.heap.size 2 v a.cells.length (flat a.cells)∧∀b,sblk v=some b→w.heap.size≤b∧¬Own p R' b∧b≠h∧sblk wv'≠some b)
def markH (H:HS) (t:Nat):HS:={H with S:=markS H.S t,A:=markA H.A t}
end Go.Proofs.YthohnjgnpapnoaaGreatDoor
namespace Go.Proofs.YthohnjgnpapnoaaGreatDoor
def reqV (q:SReq) (v:Value):Value:= .agg #[.int .i64 q.verb,.string (str q.name),.string (str q.other),.int .i64 q.b,.int .i64 q.l,.int .i64 q.n,v]
end Go.Proofs.YthohnjgnpapnoaaGreatDoor
