/- hall: step. -/
import Derived.Test.YthohnjgnpapnoaaGreatDoorR24
import Derived.Test.YthohnjgnpapnoaaGreatDoorR25
import Derived.Deep.RegionLaw
import Derived.Deep.CutBlock
import Derived.Deep.DeepCutAuto
import Derived.Deep.RegionHeld3
set_option linter.unusedVariables false
set_option linter.unusedSimpArgs false
namespace Go.Proofs.YthohnjgnpapnoaaGreatDoor
open Go.RowKit
structure StepsQ (H:HS) (t:Nat) (y:WD) (n κ:Nat) (L:List Thing) (r:Int) (S':ArS) (A':Nat→Abs) (bad:Int):Prop where
 len:L.length≤44*40
 gr:Grew t (fun V=>StepsC y.b y.l y.P n 40 V∧∀x∈L,x∈V) H.S H.A 0 S' A' bad
 has:bad=0→Has S' A' t r (rootT (evN y.b y.l n y.P) κ)∧Can (evN y.b y.l n y.P) κ
 nam:∀V,StepsD y.b y.l y.P y.k n 40 V→∀x∈L,x∈V
 told:bad=0→StepsD y.b y.l y.P y.k n 40 (A' t).have_
theorem world_cells {w:World} {Ws:List WD} {i b off cap:Nat} {x:WD} (h:Sl w 137 4 (.slice (some ⟨b,off,none⟩) Ws.length cap) Ws.length (wdsV Ws)) (hx:Ws[i]? =some x):w.cell? ⟨b,off+i*4+1,none⟩=some (.int .i64 x.root)∧w.cell? ⟨b,off+i*4+2,none⟩=some (.int .i64 x.b)∧w.cell? ⟨b,off+i*4+3,none⟩=some (.int .i64 x.l):=by
 obtain ⟨b7,off7,cap7,hv7,_,_,_,d1,d2,d3⟩:=ws_cells h hx
 injection hv7 with hv7 _ hcap7
 injection hv7 with hv7
 injection hv7 with hb7 ho7 _
 subst hb7
 subst ho7
 exact ⟨d1,d2,d3⟩
theorem run_max4 (a b c d:Int) (w:World):(Builtin.max_ #[3,3,3,3] 3 #[.int .i64 a,.int .i64 b,.int .i64 c,.int .i64 d]).run Tryz.prog w= .ok (.int .i64 (max (max (max a b) c) d)) w:=by
 have m:∀x y:Int,max x y=(if y>x then y else x):=fun x y=>by split<;>omega
 rw [m (max (max a b) c) d,m (max a b) c,m a b]
 rfl
theorem box_before {w0 w3:World} {h p t bb:Nat} {R:ArR} {S:ArS} {A:Nat→Abs} {d:Int} {Ws:List WD} {wv kv:Value} {ser:Nat} {K:List KeyD} (hn:¬Own p R bb∧bb≠h∧sblk wv≠some bb∧sblk kv≠some bb) (hl:Hl w3 h p R S A t d Ws wv ser K kv) (hs:HStep h p R wv kv R wv kv w0 w3) (hlo:w0.heap.size≤bb) (hz:Blk w3 bb 52 #[.int .i64 0,.int .i64 0,.int .i64 0,.int .i64 0]) (X0 Y0 X1 Y1:Int):
 Hl ((((w3.setCell ⟨bb,0,none⟩ (.int .i64 X0)).setCell ⟨bb,1,none⟩ (.int .i64 Y0)).setCell ⟨bb,2,none⟩ (.int .i64 X1)).setCell ⟨bb,3,none⟩ (.int .i64 Y1)) h p R S A t d Ws wv ser K kv∧HStep h p R wv kv R wv kv w0 ((((w3.setCell ⟨bb,0,none⟩ (.int .i64 X0)).setCell ⟨bb,1,none⟩ (.int .i64 Y0)).setCell ⟨bb,2,none⟩ (.int .i64 X1)).setCell ⟨bb,3,none⟩ (.int .i64 Y1))∧Blk ((((w3.setCell ⟨bb,0,none⟩ (.int .i64 X0)).setCell ⟨bb,1,none⟩ (.int .i64 Y0)).setCell ⟨bb,2,none⟩ (.int .i64 X1)).setCell ⟨bb,3,none⟩ (.int .i64 Y1)) bb 52 #[.int .i64 X0,.int .i64 Y0,.int .i64 X1,.int .i64 Y1]∧bb≤bb:=by
 have hm:Mod (fun q=>q=bb) w3 ((((w3.setCell ⟨bb,0,none⟩ (.int .i64 X0)).setCell ⟨bb,1,none⟩ (.int .i64 Y0)).setCell ⟨bb,2,none⟩ (.int .i64 X1)).setCell ⟨bb,3,none⟩ (.int .i64 Y1)):=((((Mod.refl (fun q=>q=bb) w3).set (p:=⟨bb,0,none⟩) (fun _=>rfl) _).set (p:=⟨bb,1,none⟩) (fun _=>rfl) _).set (p:=⟨bb,2,none⟩) (fun _=>rfl) _).set (p:=⟨bb,3,none⟩) (fun _=>rfl) _
 exact ⟨hl.far hm (fun q hq e=>hn.1 (e▸hq)) (fun e=>hn.2.1 e.symm) (fun q hq e=>hn.2.2.1 (e▸hq)) (fun q hq e=>hn.2.2.2 (e▸hq)),⟨hs.mod.trans hm fun q hq e=>by omega,hs.own,hs.nw,hs.nk⟩,(((hz.set 0 _).set 1 _).set 2 _).set 3 _,Nat.le_refl _⟩
theorem box_behind {w0 w1 w3:World} {h p t:Nat} {R:ArR} {S:ArS} {A:Nat→Abs} {d:Int} {Ws:List WD} {wv kv:Value} {ser:Nat} {K:List KeyD} (hl:Hl w3 h p R S A t d Ws wv ser K kv) (hs:HStep h p R wv kv R wv kv w0 w3) (hlo:w1.heap.size≤w3.heap.size) (X0 Y0 X1 Y1:Int):
 Hl (w3.alloc (.cells #[.int .i64 X0,.int .i64 Y0,.int .i64 X1,.int .i64 Y1] 52)) h p R S A t d Ws wv ser K kv∧HStep h p R wv kv R wv kv w0 (w3.alloc (.cells #[.int .i64 X0,.int .i64 Y0,.int .i64 X1,.int .i64 Y1] 52))∧Blk (w3.alloc (.cells #[.int .i64 X0,.int .i64 Y0,.int .i64 X1,.int .i64 Y1] 52)) w3.heap.size 52 #[.int .i64 X0,.int .i64 Y0,.int .i64 X1,.int .i64 Y1]∧w1.heap.size≤w3.heap.size:=
 ⟨hl.below ((Below.refl _ _).alloc (Nat.le_refl _) _),hs.below ((Below.refl _ _).alloc (Nat.le_refl _) _),Blk.new _ _ _,hlo⟩
set_option maxRecDepth 100000 in
set_option maxHeartbeats 12800000 in
theorem step_any (w:World) (h p:Nat) (R:ArR) (H:HS) (t:Nat) (d:Int) (wv kv:Value) (HH:Hl w h p R H.S H.A t d H.Ws wv H.ser H.K kv) (q:SReq) (qA:Option Addr) (qn qcap:Nat) (hn:q.name.length≤4294967296):
 Calls Tryz.prog 74 #[.pointer (some ⟨h,0,none⟩),reqV q (.slice qA qn qcap)] w (TryP w h p R H t d wv kv (StepF H q t) (StepG H q t)):=by
 have HL:=Lib.hid HH
 have HFN:=Lib.hid (fun w1 (h1:HlR w1 h p t d H.Ws wv H.ser H.K kv)=>hfind_any w1 h p t d H.Ws wv H.ser H.K kv h1 q.name hn 2)
 clear HH
 unfold reqV
 go_enter Tryz.func74,Tryz.ntmps74
 go_wp2_with fail
 generalize hw0:World.alloc (World.alloc w _) _=w0
 obtain ⟨s1,q0,n0,s0⟩:=slots w q (.slice qA qn qcap) (w0:=w0) hw0
 have HSL:=Lib.hid s1
 have HQ0:=Lib.hid q0
 have HN0:=Lib.hid n0
 have HSQ:=Lib.hid s0
 have HL0:=Lib.hid (HL.out.below s1.bel)
 clear hw0 s1 q0 n0 s0
 (with_reducible refine (HFN.out _ HL0.out.r).mono ?_)
 rintro e w1 ⟨ptr,rfl,hb1,hp0,hp1⟩
 have HL1:=Lib.hid (HL0.out.below hb1)
 have HS1:Hid (HStep h p R wv kv R wv kv w0 w1):=HStep.arena (StepH.of_below hb1)
 have HN1:=Lib.hid (HSL.out.keep HL.out HS1.out HN0.out)
 have HQ1:=Lib.hid (HSQ.out.keep HL.out HS1.out HQ0.out)
 have HP1:=Lib.hid hp1
 have HB1:=Lib.hid hb1
 clear hb1 hp0 hp1 HFN
 obtain ⟨x,hx⟩:∃x,x=(hfind H.Ws H.K q.name 2).2:=⟨_,rfl⟩
 rw [←hx]
 have HX:=Lib.hid hx
 clear hx
 by_cases hx0:x=0
 ·subst hx0
  have q5:w1.cell? ⟨w.heap.size,5,none⟩=some (.int .i64 q.n):=HQ1.out.cellS rfl
  by_cases hneg:q.n<0
  ·have HF:Hid (StepF H q t 3 H):= .inl ⟨by unfold stepX;rw [if_neg (fun hz=>hz HX.out.symm),if_pos (.inl hneg)],rfl⟩
   have zb:=HN1.out
   have z0:w1.cell? ⟨w.heap.size+1,0,none⟩=some (.int .i64 0):=zb.cellS rfl
   have z1:w1.cell? ⟨w.heap.size+1,1,none⟩=some (.int .i64 0):=zb.cellS rfl
   have z2:w1.cell? ⟨w.heap.size+1,2,none⟩=some (.int .i64 0):=zb.cellS rfl
   have z3:w1.cell? ⟨w.heap.size+1,3,none⟩=some (.int .i64 0):=zb.cellS rfl
   have z4:w1.cell? ⟨w.heap.size+1,4,none⟩=some (.int .i64 0):=zb.cellS rfl
   have z5:w1.cell? ⟨w.heap.size+1,5,none⟩=some (.int .i64 0):=zb.cellS rfl
   have z6:w1.cell? ⟨w.heap.size+1,6,none⟩=some (.int .i64 0):=zb.cellS rfl
   have z7:w1.cell? ⟨w.heap.size+1,7,none⟩=some (.int .i64 0):=zb.cellS rfl
   have z8:w1.cell? ⟨w.heap.size+1,8,none⟩=some (.string ⟨#[]⟩):=zb.cellS rfl
   have z9:w1.cell? ⟨w.heap.size+1,9,none⟩=some (.slice none 0 0):=zb.cellS rfl
   have zf0:=zb.frozen 0
   have zf1:=zb.frozen 1
   have zf2:=zb.frozen 2
   have zf3:=zb.frozen 3
   have zf4:=zb.frozen 4
   have zf5:=zb.frozen 5
   have zf6:=zb.frozen 6
   have zf7:=zb.frozen 7
   have zf8:=zb.frozen 8
   have zf9:=zb.frozen 9
   go_wp2_with fail
   obtain ⟨hbk,hmd⟩:=an_refused HN1.out 0
   generalize hWW:World.setCell _ _ _=WW at hbk hmd ⊢
   have k0:WW.cell? ⟨w.heap.size+1,0,none⟩=some (.int .i64 0):=hbk.cellS rfl
   have k1:WW.cell? ⟨w.heap.size+1,1,none⟩=some (.int .i64 0):=hbk.cellS rfl
   have k2:WW.cell? ⟨w.heap.size+1,2,none⟩=some (.int .i64 0):=hbk.cellS rfl
   have k3:WW.cell? ⟨w.heap.size+1,3,none⟩=some (.int .i64 0):=hbk.cellS rfl
   have k4:WW.cell? ⟨w.heap.size+1,4,none⟩=some (.int .i64 0):=hbk.cellS rfl
   have k5:WW.cell? ⟨w.heap.size+1,5,none⟩=some (.int .i64 0):=hbk.cellS rfl
   have k6:WW.cell? ⟨w.heap.size+1,6,none⟩=some (.int .i64 0):=hbk.cellS rfl
   have k7:WW.cell? ⟨w.heap.size+1,7,none⟩=some (.int .i64 0):=hbk.cellS rfl
   have k8:WW.cell? ⟨w.heap.size+1,8,none⟩=some (.string ⟨#[]⟩):=hbk.cellS rfl
   have k9:WW.cell? ⟨w.heap.size+1,9,none⟩=some (.slice none 0 0):=hbk.cellS rfl
   clear hWW hbk
   refine bodyPost_ret (v:= .tuple #[ansV (An.zero 0) (.slice none 0 0),.int .i64 3]) (by simp [results,Tryz.results74,go_sem,ansV,An.zero,k0,k1,k2,k3,k4,k5,k6,k7,k8,k9,str]) rfl ?_
   exact try_no HSL.out HL.out HS1.out HL1.out (St.refl HL.out.ar.rel t) ⟨rfl,rfl,rfl⟩ (by decide) HF.out hmd
  ·by_cases hbig:1073741824<q.n
   ·have HF:Hid (StepF H q t 3 H):= .inl ⟨by unfold stepX;rw [if_neg (fun hz=>hz HX.out.symm),if_pos (.inr hbig)],rfl⟩
    have zb:=HN1.out
    have z0:w1.cell? ⟨w.heap.size+1,0,none⟩=some (.int .i64 0):=zb.cellS rfl
    have z1:w1.cell? ⟨w.heap.size+1,1,none⟩=some (.int .i64 0):=zb.cellS rfl
    have z2:w1.cell? ⟨w.heap.size+1,2,none⟩=some (.int .i64 0):=zb.cellS rfl
    have z3:w1.cell? ⟨w.heap.size+1,3,none⟩=some (.int .i64 0):=zb.cellS rfl
    have z4:w1.cell? ⟨w.heap.size+1,4,none⟩=some (.int .i64 0):=zb.cellS rfl
    have z5:w1.cell? ⟨w.heap.size+1,5,none⟩=some (.int .i64 0):=zb.cellS rfl
    have z6:w1.cell? ⟨w.heap.size+1,6,none⟩=some (.int .i64 0):=zb.cellS rfl
    have z7:w1.cell? ⟨w.heap.size+1,7,none⟩=some (.int .i64 0):=zb.cellS rfl
    have z8:w1.cell? ⟨w.heap.size+1,8,none⟩=some (.string ⟨#[]⟩):=zb.cellS rfl
    have z9:w1.cell? ⟨w.heap.size+1,9,none⟩=some (.slice none 0 0):=zb.cellS rfl
    have zf0:=zb.frozen 0
    have zf1:=zb.frozen 1
    have zf2:=zb.frozen 2
    have zf3:=zb.frozen 3
    have zf4:=zb.frozen 4
    have zf5:=zb.frozen 5
    have zf6:=zb.frozen 6
    have zf7:=zb.frozen 7
    have zf8:=zb.frozen 8
    have zf9:=zb.frozen 9
    go_wp2_with fail
    obtain ⟨hbk,hmd⟩:=an_refused HN1.out 0
    generalize hWW:World.setCell _ _ _=WW at hbk hmd ⊢
    have k0:WW.cell? ⟨w.heap.size+1,0,none⟩=some (.int .i64 0):=hbk.cellS rfl
    have k1:WW.cell? ⟨w.heap.size+1,1,none⟩=some (.int .i64 0):=hbk.cellS rfl
    have k2:WW.cell? ⟨w.heap.size+1,2,none⟩=some (.int .i64 0):=hbk.cellS rfl
    have k3:WW.cell? ⟨w.heap.size+1,3,none⟩=some (.int .i64 0):=hbk.cellS rfl
    have k4:WW.cell? ⟨w.heap.size+1,4,none⟩=some (.int .i64 0):=hbk.cellS rfl
    have k5:WW.cell? ⟨w.heap.size+1,5,none⟩=some (.int .i64 0):=hbk.cellS rfl
    have k6:WW.cell? ⟨w.heap.size+1,6,none⟩=some (.int .i64 0):=hbk.cellS rfl
    have k7:WW.cell? ⟨w.heap.size+1,7,none⟩=some (.int .i64 0):=hbk.cellS rfl
    have k8:WW.cell? ⟨w.heap.size+1,8,none⟩=some (.string ⟨#[]⟩):=hbk.cellS rfl
    have k9:WW.cell? ⟨w.heap.size+1,9,none⟩=some (.slice none 0 0):=hbk.cellS rfl
    clear hWW hbk
    refine bodyPost_ret (v:= .tuple #[ansV (An.zero 0) (.slice none 0 0),.int .i64 3]) (by simp [results,Tryz.results74,go_sem,ansV,An.zero,k0,k1,k2,k3,k4,k5,k6,k7,k8,k9,str]) rfl ?_
    exact try_no HSL.out HL.out HS1.out HL1.out (St.refl HL.out.ar.rel t) ⟨rfl,rfl,rfl⟩ (by decide) HF.out hmd
   ·obtain ⟨hil,b,off,cap,hwv,hptr⟩:=HP1.out HX.out.symm
    subst hptr
    subst hwv
    generalize hi:(hfind H.Ws H.K q.name 2).1=i at*
    have HI':=Lib.hid hi
    clear hi
    obtain ⟨y,hy⟩:∃y,H.Ws[i]? =some y:=⟨_,List.getElem?_eq_getElem hil⟩
    have HY:=Lib.hid hy
    have HGY:=Lib.hid (HL1.out.good y (List.mem_of_getElem? hy))
    have h2:=root_cell HL1.out.ws hy
    have h0:w1.cell? ⟨h,0,none⟩=some (.pointer (some ⟨p,0,none⟩)):=HL1.out.blk.cellS rfl
    have h1:w1.cell? ⟨h,1,none⟩=some (.int .i64 t):=HL1.out.blk.cellS rfl
    have HBX:=Lib.hid (fun W (hW:Ar W p R H.S H.A)=>qbox_any W p R H.S H.A hW t HL.out.ht y.P y.k (by have:=HGY.out.k40;omega) y.root HGY.out.has)
    obtain ⟨n,hnn⟩:∃n:Nat,q.n=(n:Int):=⟨q.n.toNat,by omega⟩
    have HNN:=Lib.hid hnn
    have hn30:(n:Int)≤1073741824:=by omega
    have hn0:(0:Int)≤(n:Int):=by omega
    clear hy hneg hbig
    rw [hnn] at q5
    clear hnn
    have hbz:Below w1.heap.size w1 (w1.alloc (.cells #[.int .i64 0,.int .i64 0,.int .i64 0,.int .i64 0] 52)):=(Below.refl _ _).alloc (Nat.le_refl _) _
    have HBZ:=Lib.hid hbz
    have HLZ:=Lib.hid (HL1.out.below hbz)
    have HZB:Hid (Blk (w1.alloc (.cells #[.int .i64 0,.int .i64 0,.int .i64 0,.int .i64 0] 52)) w1.heap.size 52 #[.int .i64 0,.int .i64 0,.int .i64 0,.int .i64 0]):=Blk.new _ _ _
    have HNW:=Lib.hid (HL1.out.new (Nat.le_refl w1.heap.size))
    have NEH:Hid (h≠w1.heap.size):=fun e=>HNW.out.2.1 e.symm
    have NEB:Hid (b≠w1.heap.size):=fun e=>HNW.out.2.2.1 (by rw [←e];rfl)
    have u2:=root_cell HLZ.out.ws HY.out
    have u0:(w1.alloc (.cells #[.int .i64 0,.int .i64 0,.int .i64 0,.int .i64 0] 52)).cell? ⟨h,0,none⟩=some (.pointer (some ⟨p,0,none⟩)):=HLZ.out.blk.cellS rfl
    have u1:(w1.alloc (.cells #[.int .i64 0,.int .i64 0,.int .i64 0,.int .i64 0] 52)).cell? ⟨h,1,none⟩=some (.int .i64 t):=HLZ.out.blk.cellS rfl
    clear hbz
    go_upto_region 6 with fail
    go_cut [8,9,7] (fun bv kv' ev wx=>∃(bb:Nat) (ok:Bool) (X0 Y0 X1 Y1:Int),bv= .pointer (some ⟨bb,0,none⟩)∧kv'= .bool ok∧ev= .int .i64 0∧ok= !blankT (rootT y.P y.k)∧(ok=true→X0=bxX0 y.P y.k∧Y0=bxY0 y.P y.k∧X1=bxX1 y.P y.k∧Y1=bxY1 y.P y.k)∧(ok=false→X0=0∧Y0=0∧X1=0∧Y1=0)∧Hl wx h p R H.S H.A t d H.Ws (.slice (some ⟨b,off,none⟩) H.Ws.length cap) H.ser H.K kv∧HStep h p R (.slice (some ⟨b,off,none⟩) H.Ws.length cap) kv R (.slice (some ⟨b,off,none⟩) H.Ws.length cap) kv w0 wx∧Blk wx bb 52 #[.int .i64 X0,.int .i64 Y0,.int .i64 X1,.int .i64 Y1]∧w1.heap.size≤bb)
    case first=>
     cases hbl:blankT (rootT y.P y.k)
     ·have HBL:=Lib.hid hbl
      clear hbl
      obtain ⟨X0,hX0⟩:∃v,v=bxX0 y.P y.k:=⟨_,rfl⟩
      obtain ⟨Y0,hY0⟩:∃v,v=bxY0 y.P y.k:=⟨_,rfl⟩
      obtain ⟨X1,hX1⟩:∃v,v=bxX1 y.P y.k:=⟨_,rfl⟩
      obtain ⟨Y1,hY1⟩:∃v,v=bxY1 y.P y.k:=⟨_,rfl⟩
      have HXY:=Lib.hid (And.intro hX0 (And.intro hY0 (And.intro hX1 hY1)))
      have HBQ:Hid (∀W,Ar W p R H.S H.A→Calls Tryz.prog 112 #[.pointer (some ⟨p,0,none⟩),.int .i64 t,.int .i64 y.root] W fun e w'=>e= .returned (.tuple #[.agg #[.int .i64 X0,.int .i64 Y0,.int .i64 X1,.int .i64 Y1],.bool true,.int .i64 0])∧Ar w' p R H.S H.A∧StepH NoX p R R W w'):=fun W hW=>(HBX.out W hW).mono fun e w' hq=>by
       obtain ⟨hq,g1,g2⟩:=hq
       rcases hq with hq | hq
       ·exact absurd (HBL.out.symm.trans hq.1) (by decide)
       ·rw [HXY.out.1,HXY.out.2.1,HXY.out.2.2.1,HXY.out.2.2.2];exact ⟨hq.2,g1,g2⟩
      clear hX0 hY0 hX1 hY1
      go_region_held3 (fun w'=>w'.cell? ⟨h,0,none⟩=some (.pointer (some ⟨p,0,none⟩))∧w'.cell? ⟨h,1,none⟩=some (.int .i64 t)∧w'.cell? ⟨b,off+i*4+1,none⟩=some (.int .i64 y.root))
       (first | (with_reducible exact ⟨h0,h1,h2⟩) | (with_reducible exact ⟨u0,u1,u2⟩) | (with_reducible exact ⟨e0,e1,e2⟩) | (with_reducible exact ⟨cell_far NEH.out e0,cell_far NEH.out e1,cell_far NEB.out e2⟩) | (with_reducible exact ⟨cell_far NEH.out (cell_far NEH.out e0),cell_far NEH.out (cell_far NEH.out e1),cell_far NEB.out (cell_far NEB.out e2)⟩) | (with_reducible exact ⟨cell_far NEH.out (cell_far NEH.out (cell_far NEH.out e0)),cell_far NEH.out (cell_far NEH.out (cell_far NEH.out e1)),cell_far NEB.out (cell_far NEB.out (cell_far NEB.out e2))⟩) | (with_reducible exact ⟨cell_far NEH.out (cell_far NEH.out (cell_far NEH.out (cell_far NEH.out e0))),cell_far NEH.out (cell_far NEH.out (cell_far NEH.out (cell_far NEH.out e1))),cell_far NEB.out (cell_far NEB.out (cell_far NEB.out (cell_far NEB.out e2)))⟩) | go_keep)
       ((go_at_call 112;refine (HBQ.out _ (by first | exact HL1.out.ar.below (Below.refl _ _).drew | exact HLZ.out.ar.below (Below.refl _ _).drew)).mono ?_;intro e w3 hq;obtain ⟨rfl,ha3,hst3⟩:=hq;have HST3:Hid (StepH NoX p R R w1 w3):=(by first | exact (StepH.of_below (Below.refl _ _).drew:StepH NoX p R R w1 w1.drew).trans hst3 | exact (StepH.of_below HBZ.out).trans ((StepH.of_below (Below.refl _ _).drew).trans hst3));have HL3:=Lib.hid (HL1.out.arena ha3 HST3.out HL1.out.good);have e0:w3.cell? ⟨h,0,none⟩=some (.pointer (some ⟨p,0,none⟩)):=HL3.out.blk.cellS rfl;have e1:w3.cell? ⟨h,1,none⟩=some (.int .i64 t):=HL3.out.blk.cellS rfl;have e2:=(root_cell HL3.out.ws HY.out);try (have hz3:=HZB.out.drew.mod hst3.mod (fun ho=>ho.elim HNW.out.1 (fun k=>k));have z0:=hz3.cellS (i:=0) rfl;have z1:=hz3.cellS (i:=1) rfl;have z2:=hz3.cellS (i:=2) rfl;have z3:=hz3.cellS (i:=3) rfl;have zf0:=hz3.frozen 0;have zf1:=hz3.frozen 1;have zf2:=hz3.frozen 2;have zf3:=hz3.frozen 3)))
      all_goals first
       | (have HBF:=Lib.hid (box_before HNW.out HL3.out (HS1.out.trans (HStep.arena HST3.out)) HB1.out.size hz3 (X0) (Y0) (X1) (Y1))
          generalize World.setCell (World.setCell (World.setCell (World.setCell w3 _ _) _ _) _ _) _ _=w4 at HBF ⊢)
       | (have HBF:=Lib.hid (box_behind HL3.out (HS1.out.trans (HStep.arena HST3.out)) HST3.out.mod.size (X0) (Y0) (X1) (Y1))
          generalize World.alloc w3 _=w4 at HBF ⊢)
      all_goals go_wp2_with fail
      all_goals (
       go_meet
       refine ⟨_,true,X0,Y0,X1,Y1,rfl,rfl,rfl,by rw [HBL.out];rfl,fun _=>⟨HXY.out.1,HXY.out.2.1,HXY.out.2.2.1,HXY.out.2.2.2⟩,(fun e=>by cases e),HBF.out.1,HBF.out.2.1,HBF.out.2.2.1,HBF.out.2.2.2⟩)
     ·have HBL:=Lib.hid hbl
      clear hbl
      have HBQ:Hid (∀W,Ar W p R H.S H.A→Calls Tryz.prog 112 #[.pointer (some ⟨p,0,none⟩),.int .i64 t,.int .i64 y.root] W fun e w'=>e= .returned (.tuple #[.agg #[.int .i64 0,.int .i64 0,.int .i64 0,.int .i64 0],.bool false,.int .i64 0])∧Ar w' p R H.S H.A∧StepH NoX p R R W w'):=fun W hW=>(HBX.out W hW).mono fun e w' hq=>by
       obtain ⟨hq,g1,g2⟩:=hq
       rcases hq with hq | hq
       ·exact ⟨hq.2,g1,g2⟩
       ·exact absurd (HBL.out.symm.trans hq.1) (by decide)
      go_region_held3 (fun w'=>w'.cell? ⟨h,0,none⟩=some (.pointer (some ⟨p,0,none⟩))∧w'.cell? ⟨h,1,none⟩=some (.int .i64 t)∧w'.cell? ⟨b,off+i*4+1,none⟩=some (.int .i64 y.root))
       (first | (with_reducible exact ⟨h0,h1,h2⟩) | (with_reducible exact ⟨u0,u1,u2⟩) | (with_reducible exact ⟨e0,e1,e2⟩) | (with_reducible exact ⟨cell_far NEH.out e0,cell_far NEH.out e1,cell_far NEB.out e2⟩) | (with_reducible exact ⟨cell_far NEH.out (cell_far NEH.out e0),cell_far NEH.out (cell_far NEH.out e1),cell_far NEB.out (cell_far NEB.out e2)⟩) | (with_reducible exact ⟨cell_far NEH.out (cell_far NEH.out (cell_far NEH.out e0)),cell_far NEH.out (cell_far NEH.out (cell_far NEH.out e1)),cell_far NEB.out (cell_far NEB.out (cell_far NEB.out e2))⟩) | (with_reducible exact ⟨cell_far NEH.out (cell_far NEH.out (cell_far NEH.out (cell_far NEH.out e0))),cell_far NEH.out (cell_far NEH.out (cell_far NEH.out (cell_far NEH.out e1))),cell_far NEB.out (cell_far NEB.out (cell_far NEB.out (cell_far NEB.out e2)))⟩) | go_keep)
       ((go_at_call 112;refine (HBQ.out _ (by first | exact HL1.out.ar.below (Below.refl _ _).drew | exact HLZ.out.ar.below (Below.refl _ _).drew)).mono ?_;intro e w3 hq;obtain ⟨rfl,ha3,hst3⟩:=hq;have HST3:Hid (StepH NoX p R R w1 w3):=(by first | exact (StepH.of_below (Below.refl _ _).drew:StepH NoX p R R w1 w1.drew).trans hst3 | exact (StepH.of_below HBZ.out).trans ((StepH.of_below (Below.refl _ _).drew).trans hst3));have HL3:=Lib.hid (HL1.out.arena ha3 HST3.out HL1.out.good);have e0:w3.cell? ⟨h,0,none⟩=some (.pointer (some ⟨p,0,none⟩)):=HL3.out.blk.cellS rfl;have e1:w3.cell? ⟨h,1,none⟩=some (.int .i64 t):=HL3.out.blk.cellS rfl;have e2:=(root_cell HL3.out.ws HY.out);try (have hz3:=HZB.out.drew.mod hst3.mod (fun ho=>ho.elim HNW.out.1 (fun k=>k));have z0:=hz3.cellS (i:=0) rfl;have z1:=hz3.cellS (i:=1) rfl;have z2:=hz3.cellS (i:=2) rfl;have z3:=hz3.cellS (i:=3) rfl;have zf0:=hz3.frozen 0;have zf1:=hz3.frozen 1;have zf2:=hz3.frozen 2;have zf3:=hz3.frozen 3)))
      all_goals first
       | (have HBF:=Lib.hid (box_before HNW.out HL3.out (HS1.out.trans (HStep.arena HST3.out)) HB1.out.size hz3 (0) (0) (0) (0))
          generalize World.setCell (World.setCell (World.setCell (World.setCell w3 _ _) _ _) _ _) _ _=w4 at HBF ⊢)
       | (have HBF:=Lib.hid (box_behind HL3.out (HS1.out.trans (HStep.arena HST3.out)) HST3.out.mod.size (0) (0) (0) (0))
          generalize World.alloc w3 _=w4 at HBF ⊢)
      all_goals go_wp2_with fail
      all_goals (
       go_meet
       refine ⟨_,false,0,0,0,0,rfl,rfl,rfl,by rw [HBL.out];rfl,(fun e=>by cases e),fun _=>⟨rfl,rfl,rfl,rfl⟩,HBF.out.1,HBF.out.2.1,HBF.out.2.2.1,HBF.out.2.2.2⟩)
    case rest=>
     obtain ⟨bb,ok,X0,Y0,X1,Y1,rfl,rfl,rfl,hok,hx1,hx2,hl3,hs3,hbk,hlo⟩:=hcut
     have HOK:=Lib.hid hok
     have HXT:=Lib.hid hx1
     have HXF:=Lib.hid hx2
     have HL3:=Lib.hid hl3
     have HS3:=Lib.hid hs3
     have HN3:=Lib.hid (HSL.out.keep HL.out hs3 HN0.out)
     have HQ3:=Lib.hid (HSQ.out.keep HL.out hs3 HQ0.out)
     have x0:=hbk.cellS (i:=0) rfl
     have x1:=hbk.cellS (i:=1) rfl
     have x2:=hbk.cellS (i:=2) rfl
     have x3:=hbk.cellS (i:=3) rfl
     have q5':wc.cell? ⟨w.heap.size,5,none⟩=some (.int .i64 (n:Int)):=by rw [←HNN.out];exact HQ3.out.cellS rfl
     have hbd:∀s,0≤bxD y.P y.k s∧bxD y.P y.k s≤2199023255552:=fun s=>by
      have h1:=edgeT_bd s (y.k+1) (rootT y.P y.k)
      have h2:=Nat.pow_le_pow_right (n:=2) (by decide) (show y.k+1≤41 by have:=HGY.out.k40;omega)
      have h3:((2^(y.k+1):Nat):Int)≤((2^41:Nat):Int):=Int.ofNat_le.2 h2
      rw [show (2:Nat)^41=2199023255552 by decide] at h3
      have h4:(2:Int)^(y.k+1)≤2199023255552:=by simpa using h3
      unfold bxD
      omega
     have hpk:(0:Int)<2^y.k∧(2:Int)^y.k≤1099511627776:=by
      have h2:=Nat.pow_le_pow_right (n:=2) (by decide) HGY.out.k40
      have h3:((2^y.k:Nat):Int)≤((2^40:Nat):Int):=Int.ofNat_le.2 h2
      rw [show (2:Nat)^40=1099511627776 by decide] at h3
      exact ⟨pow_pos2 _,by simpa using h3⟩
     have hb40:(-4398046511104≤X0∧X0≤4398046511104)∧(-4398046511104≤Y0∧Y0≤4398046511104)∧(-4398046511104≤X1∧X1≤4398046511104)∧(-4398046511104≤Y1∧Y1≤4398046511104):=by
      cases ok
      ·obtain ⟨rfl,rfl,rfl,rfl⟩:=hx2 rfl
       decide
      ·obtain ⟨rfl,rfl,rfl,rfl⟩:=hx1 rfl
       have h0:=hbd 0
       have h1:=hbd 1
       have h2:=hbd 2
       have h3:=hbd 3
       unfold bxX0 bxX1 bxY0 bxY1
       omega
     obtain ⟨⟨p00,p01⟩,⟨p10,p11⟩,⟨p20,p21⟩,⟨p30,p31⟩⟩:=hb40
     have HFX:Hid (ok=true→max (max (max (-X0) (-Y0)) X1) Y1=farB y.P y.k):=fun e=>by
      obtain ⟨e0,e1,e2,e3⟩:=HXT.out e
      rw [e0,e1,e2,e3];rfl
     have hmx:=run_max4 (-X0) (-Y0) X1 Y1 wc
     obtain ⟨far,hfar⟩:∃far,far=max (max (max (-X0) (-Y0)) X1) Y1:=⟨_,rfl⟩
     rw [←hfar] at hmx HFX
     have hf0: -4398046511104≤far:=by omega
     have hf1:far≤4398046511104:=by omega
     have h2:=root_cell HL3.out.ws HY.out
     have h0:wc.cell? ⟨h,0,none⟩=some (.pointer (some ⟨p,0,none⟩)):=HL3.out.blk.cellS rfl
     have h1:wc.cell? ⟨h,1,none⟩=some (.int .i64 t):=HL3.out.blk.cellS rfl
     clear hok hx1 hx2 hl3 hs3 hbk hlo hbd hpk u0 u1 u2 hfar
     by_cases hfb:ok=true∧1099511627776≤far+n
     ·obtain ⟨hok1,hfn⟩:=hfb
      have HF:Hid (StepF H q t 3 H):= .inl ⟨by
       unfold stepX
       rw [if_neg (fun hz=>hz HX.out.symm),if_neg (by rw [HNN.out];omega),HI'.out,HY.out]
       show (if _ then (3:Int) else 0)=3
       rw [if_pos]
       refine ⟨?_,?_⟩
       ·have:=HOK.out;rw [hok1] at this;simpa using this.symm
       ·rw [←HFX.out hok1,HNN.out];exact hfn,rfl⟩
      subst hok1
      have hdf:decide (1099511627776≤far+n)=true:=decide_eq_true hfn
      have zb:=HN3.out
      have z0:wc.cell? ⟨w.heap.size+1,0,none⟩=some (.int .i64 0):=zb.cellS rfl
      have z1:wc.cell? ⟨w.heap.size+1,1,none⟩=some (.int .i64 0):=zb.cellS rfl
      have z2:wc.cell? ⟨w.heap.size+1,2,none⟩=some (.int .i64 0):=zb.cellS rfl
      have z3:wc.cell? ⟨w.heap.size+1,3,none⟩=some (.int .i64 0):=zb.cellS rfl
      have z4:wc.cell? ⟨w.heap.size+1,4,none⟩=some (.int .i64 0):=zb.cellS rfl
      have z5:wc.cell? ⟨w.heap.size+1,5,none⟩=some (.int .i64 0):=zb.cellS rfl
      have z6:wc.cell? ⟨w.heap.size+1,6,none⟩=some (.int .i64 0):=zb.cellS rfl
      have z7:wc.cell? ⟨w.heap.size+1,7,none⟩=some (.int .i64 0):=zb.cellS rfl
      have z8:wc.cell? ⟨w.heap.size+1,8,none⟩=some (.string ⟨#[]⟩):=zb.cellS rfl
      have z9:wc.cell? ⟨w.heap.size+1,9,none⟩=some (.slice none 0 0):=zb.cellS rfl
      have zf0:=zb.frozen 0
      have zf1:=zb.frozen 1
      have zf2:=zb.frozen 2
      have zf3:=zb.frozen 3
      have zf4:=zb.frozen 4
      have zf5:=zb.frozen 5
      have zf6:=zb.frozen 6
      have zf7:=zb.frozen 7
      have zf8:=zb.frozen 8
      have zf9:=zb.frozen 9
      go_wp2_with fail
      obtain ⟨hbk,hmd⟩:=an_refused HN3.out 0
      generalize hWW:World.setCell _ _ _=WW at hbk hmd ⊢
      have k0:WW.cell? ⟨w.heap.size+1,0,none⟩=some (.int .i64 0):=hbk.cellS rfl
      have k1:WW.cell? ⟨w.heap.size+1,1,none⟩=some (.int .i64 0):=hbk.cellS rfl
      have k2:WW.cell? ⟨w.heap.size+1,2,none⟩=some (.int .i64 0):=hbk.cellS rfl
      have k3:WW.cell? ⟨w.heap.size+1,3,none⟩=some (.int .i64 0):=hbk.cellS rfl
      have k4:WW.cell? ⟨w.heap.size+1,4,none⟩=some (.int .i64 0):=hbk.cellS rfl
      have k5:WW.cell? ⟨w.heap.size+1,5,none⟩=some (.int .i64 0):=hbk.cellS rfl
      have k6:WW.cell? ⟨w.heap.size+1,6,none⟩=some (.int .i64 0):=hbk.cellS rfl
      have k7:WW.cell? ⟨w.heap.size+1,7,none⟩=some (.int .i64 0):=hbk.cellS rfl
      have k8:WW.cell? ⟨w.heap.size+1,8,none⟩=some (.string ⟨#[]⟩):=hbk.cellS rfl
      have k9:WW.cell? ⟨w.heap.size+1,9,none⟩=some (.slice none 0 0):=hbk.cellS rfl
      clear hWW hbk
      refine bodyPost_ret (v:= .tuple #[ansV (An.zero 0) (.slice none 0 0),.int .i64 3]) (by simp [results,Tryz.results74,go_sem,ansV,An.zero,k0,k1,k2,k3,k4,k5,k6,k7,k8,k9,str]) rfl ?_
      exact try_no HSL.out HL.out HS3.out HL3.out (St.refl HL.out.ar.rel t) ⟨rfl,rfl,rfl⟩ (by decide) HF.out hmd
     ·have HGO:Hid (blankT (rootT y.P y.k)=true∨farB y.P y.k+n<1099511627776):=by
       cases ok with
       | false=>have:=HOK.out;exact .inl (by simpa using this.symm)
       | true=>refine .inr ?_;rw [←HFX.out rfl];have:=hfb;simp at this;omega
      have HNN30:Hid (n≤1073741824):=by show n≤1073741824;omega
      have HST:=Lib.hid (fun W (hW:Ar W p R H.S H.A)=>steps_any W p R H.S H.A hW t HL.out.ht y.b y.l HGY.out.rule y.P y.k HGY.out.k1 (by have:=HGY.out.k40;omega) HGY.out.supp n HNN30.out 40 (by decide) (by decide) (fun m hm=>span_supp40 (step_span HGY.out.rule HGY.out.supp HNN30.out HGO.out m hm)) y.root HGY.out.has)
      obtain ⟨b7,off7,cap7,hv7,_,_,_,d1,d2,d3⟩:=ws_cells HL3.out.ws HY.out
      injection hv7 with hv7 _ hcap7
      injection hv7 with hv7
      injection hv7 with hb7 ho7 _
      subst hb7
      subst ho7
      clear hcap7
      go_upto_region 10 with fail
      obtain ⟨wk,hwk⟩:∃wk,wk=wc:=⟨_,rfl⟩
      go_cut [71] (fun bv wx=>bv= .bool false∧wx=wk)
      case first=>
       cases ok
       ·go_wp2_with fail
        go_meet
        exact ⟨rfl,hwk.symm⟩
       ·have hdf:decide (1099511627776≤far+n)=false:=decide_eq_false (by have:=hfb;simp at this;omega)
        go_wp2_with fail
        go_meet
        exact ⟨rfl,hwk.symm⟩
      case rest=>
       obtain ⟨rfl,hw'⟩:=hcut
       subst hwk
       subst hw'
       clear hmx
       go_wp2_with fail
       go_cut [11,7] (fun rv ev wx=>∃(κ:Nat) (L:List Thing) (r:Int) (S':ArS) (A':Nat→Abs) (R':ArR) (bad':Int),rv= .int .i64 r∧ev= .int .i64 bad'∧StepsQ H t y n κ L r S' A' bad'∧Hl wx h p R' S' A' t d H.Ws (.slice (some ⟨b,off,none⟩) H.Ws.length cap) H.ser H.K kv∧HStep h p R (.slice (some ⟨b,off,none⟩) H.Ws.length cap) kv R' (.slice (some ⟨b,off,none⟩) H.Ws.length cap) kv w0 wx)
       case first=>
        go_region_held3 (fun w'=>w'.cell? ⟨h,0,none⟩=some (.pointer (some ⟨p,0,none⟩))∧w'.cell? ⟨h,1,none⟩=some (.int .i64 t)∧w'.cell? ⟨b,off+i*4+1,none⟩=some (.int .i64 y.root)∧w'.cell? ⟨b,off+i*4+2,none⟩=some (.int .i64 y.b)∧w'.cell? ⟨b,off+i*4+3,none⟩=some (.int .i64 y.l)∧w'.cell? ⟨w.heap.size,5,none⟩=some (.int .i64 (n:Int)))
         (first | (with_reducible exact ⟨h0,h1,h2,d2,d3,q5'⟩) | (with_reducible exact ⟨e0,e1,e2,e3,e4,e5⟩) | go_keep)
         ((go_at_call 113;refine (HST.out _ (by exact HL3.out.ar.below (Below.refl _ _).drew)).mono ?_;intro e w5 hq;obtain ⟨κ,L,r,S',A',R',bad',rfl,hq1,hq2,hq3,ha5,hst5,hq6,hq7⟩:=hq;obtain ⟨v,hv⟩:∃v,v=(if bad'=0 then r else 0):=⟨_,rfl⟩;rw [←hv];have HST5:Hid (StepH NoX p R R' wc w5):=(StepH.of_below (Below.refl _ _).drew:StepH NoX p R R wc wc.drew).trans hst5;have HL5:=Lib.hid (HL3.out.grow ha5 HST5.out hq2.st);have HS5:=Lib.hid (HS3.out.trans (HStep.arena HST5.out));have HQ5:=Lib.hid (HSQ.out.keep HL.out HS5.out HQ0.out);have HSQ5:Hid (StepsQ H t y n κ L v S' A' bad'):=⟨hq1,hq2,(fun e=>by rw [hv,if_pos e];exact hq3 e),hq6,hq7⟩;clear hv hq1 hq2 hq3 hq6 hq7 ha5 hst5;have e0:w5.cell? ⟨h,0,none⟩=some (.pointer (some ⟨p,0,none⟩)):=HL5.out.blk.cellS rfl;have e1:w5.cell? ⟨h,1,none⟩=some (.int .i64 t):=HL5.out.blk.cellS rfl;have hwd:=world_cells HL5.out.ws HY.out;have e2:=hwd.1;have e3:=hwd.2.1;have e4:=hwd.2.2;clear hwd;have e5:w5.cell? ⟨w.heap.size,5,none⟩=some (.int .i64 (n:Int)):=by rw [←HNN.out];exact HQ5.out.cellS rfl))
        all_goals (
         clear h0 h1 h2 d2 d3 q5' e0 e1 e2 e3 e4 e5
         go_wp2_with fail
         go_meet
         exact ⟨κ,L,v,S',A',R',bad',rfl,rfl,HSQ5.out,HL5.out,HS5.out⟩)
       case rest=>
        obtain ⟨κ,L,r,S',A',R',bad,rfl,rfl,hsq,hl6,hs6⟩:=hcut
        have HSQ6:=Lib.hid hsq
        have HL6:=Lib.hid hl6
        have HS6:=Lib.hid hs6
        have HN6:=Lib.hid (HSL.out.keep HL.out hs6 HN0.out)
        clear hsq hl6 hs6 h0 h1 h2 d2 d3 q5' HST
        by_cases hb:bad=0
        ·subst hb
         have hcan:=(HSQ6.out.has rfl).2
         have hsp:=step_span HGY.out.rule HGY.out.supp HNN30.out HGO.out n (Nat.le_refl _)
         have HWX:Hid (WOk S' A' t {y with root:=r,P:=evN y.b y.l n y.P,k:=κ}):=⟨(HSQ6.out.has rfl).1,hcan.1,hcan.le (by decide) (span_supp40 hsp),hcan.2.1,span_ok hsp,HGY.out.rule,HGY.out.named⟩
         have HCN:=Lib.hid hcan
         have hrt:=Hl.root HL6.out HY.out HWX.out
         rw [←Nat.add_assoc] at hrt
         obtain ⟨f1,hl5,hst5⟩:=hrt
         have d1:=root_cell HL6.out.ws HY.out
         have HL7:=Lib.hid hl5
         have HS7:=Lib.hid (HS6.out.trans hst5)
         have HN7:=Lib.hid (HSL.out.keep HL.out HS7.out HN0.out)
         have HNT:Hid (q.n.toNat=n):=by show _=_;rw [HNN.out];simp
         have HX0:Hid (stepX H q=0):=by
          show _=_
          unfold stepX
          rw [if_neg (fun hz=>hz HX.out.symm),if_neg (by rw [HNN.out];have:=HNN30.out;omega),HI'.out,HY.out]
          show (if _ then (3:Int) else 0)=0
          rw [if_neg]
          rintro ⟨g1,g2⟩
          rw [HNN.out] at g2
          rcases HGO.out with q | q
          ·rw [g1] at q;cases q
          ·omega
         have HGG:Hid (StepG H q t (An.zero 0) ⟨S',A',H.Ws.set i {y with root:=r,P:=evN y.b y.l n y.P,k:=κ},H.ser,H.K⟩):=by
          refine ⟨HX0.out,rfl,y,L,r,κ,by rw [HI'.out];exact HY.out,HSQ6.out.len,?_,?_,?_,?_,?_,rfl,rfl⟩
          ·rw [HNT.out];exact HSQ6.out.nam
          ·rw [HNT.out];exact HSQ6.out.gr
          ·rw [HNT.out];exact HSQ6.out.told rfl
          ·rw [HNT.out];exact HCN.out
          ·rw [HNT.out,HI'.out]
         clear hcan hsp hl5 hst5
         have zb:=HN7.out
         have z0:(wc.setCell ⟨b,off+i*4+1,none⟩ (.int .i64 r)).cell? ⟨w.heap.size+1,0,none⟩=some (.int .i64 0):=zb.cellS rfl
         have z1:(wc.setCell ⟨b,off+i*4+1,none⟩ (.int .i64 r)).cell? ⟨w.heap.size+1,1,none⟩=some (.int .i64 0):=zb.cellS rfl
         have z2:(wc.setCell ⟨b,off+i*4+1,none⟩ (.int .i64 r)).cell? ⟨w.heap.size+1,2,none⟩=some (.int .i64 0):=zb.cellS rfl
         have z3:(wc.setCell ⟨b,off+i*4+1,none⟩ (.int .i64 r)).cell? ⟨w.heap.size+1,3,none⟩=some (.int .i64 0):=zb.cellS rfl
         have z4:(wc.setCell ⟨b,off+i*4+1,none⟩ (.int .i64 r)).cell? ⟨w.heap.size+1,4,none⟩=some (.int .i64 0):=zb.cellS rfl
         have z5:(wc.setCell ⟨b,off+i*4+1,none⟩ (.int .i64 r)).cell? ⟨w.heap.size+1,5,none⟩=some (.int .i64 0):=zb.cellS rfl
         have z6:(wc.setCell ⟨b,off+i*4+1,none⟩ (.int .i64 r)).cell? ⟨w.heap.size+1,6,none⟩=some (.int .i64 0):=zb.cellS rfl
         have z7:(wc.setCell ⟨b,off+i*4+1,none⟩ (.int .i64 r)).cell? ⟨w.heap.size+1,7,none⟩=some (.int .i64 0):=zb.cellS rfl
         have z8:(wc.setCell ⟨b,off+i*4+1,none⟩ (.int .i64 r)).cell? ⟨w.heap.size+1,8,none⟩=some (.string ⟨#[]⟩):=zb.cellS rfl
         have z9:(wc.setCell ⟨b,off+i*4+1,none⟩ (.int .i64 r)).cell? ⟨w.heap.size+1,9,none⟩=some (.slice none 0 0):=zb.cellS rfl
         have zf0:=zb.frozen 0
         have zf1:=zb.frozen 1
         have zf2:=zb.frozen 2
         have zf3:=zb.frozen 3
         have zf4:=zb.frozen 4
         have zf5:=zb.frozen 5
         have zf6:=zb.frozen 6
         have zf7:=zb.frozen 7
         have zf8:=zb.frozen 8
         have zf9:=zb.frozen 9
         go_wp2_with fail
         have hbm:Blk (((((((((((wc.setCell ⟨b,off+i*4+1,none⟩ (.int .i64 r)).setCell ⟨w.heap.size+1,0,none⟩ (.int .i64 0)).setCell ⟨w.heap.size+1,1,none⟩ (.int .i64 0)).setCell ⟨w.heap.size+1,2,none⟩ (.int .i64 0)).setCell ⟨w.heap.size+1,3,none⟩ (.int .i64 0)).setCell ⟨w.heap.size+1,4,none⟩ (.int .i64 0)).setCell ⟨w.heap.size+1,5,none⟩ (.int .i64 0)).setCell ⟨w.heap.size+1,6,none⟩ (.int .i64 0)).setCell ⟨w.heap.size+1,7,none⟩ (.int .i64 0)).setCell ⟨w.heap.size+1,8,none⟩ (.string ⟨#[]⟩)).setCell ⟨w.heap.size+1,9,none⟩ (.slice none 0 0)) (w.heap.size+1) 57 (anC (An.zero 0) (.slice none 0 0))∧Mod (fun b=>b=w.heap.size+1) (wc.setCell ⟨b,off+i*4+1,none⟩ (.int .i64 r)) (((((((((((wc.setCell ⟨b,off+i*4+1,none⟩ (.int .i64 r)).setCell ⟨w.heap.size+1,0,none⟩ (.int .i64 0)).setCell ⟨w.heap.size+1,1,none⟩ (.int .i64 0)).setCell ⟨w.heap.size+1,2,none⟩ (.int .i64 0)).setCell ⟨w.heap.size+1,3,none⟩ (.int .i64 0)).setCell ⟨w.heap.size+1,4,none⟩ (.int .i64 0)).setCell ⟨w.heap.size+1,5,none⟩ (.int .i64 0)).setCell ⟨w.heap.size+1,6,none⟩ (.int .i64 0)).setCell ⟨w.heap.size+1,7,none⟩ (.int .i64 0)).setCell ⟨w.heap.size+1,8,none⟩ (.string ⟨#[]⟩)).setCell ⟨w.heap.size+1,9,none⟩ (.slice none 0 0)):=an_stored HN7.out (An.zero 0) (.slice none 0 0)
         obtain ⟨hbk,hmd⟩:=hbm
         generalize hWW:World.setCell _ _ _=WW at hbk hmd ⊢
         have k0:WW.cell? ⟨w.heap.size+1,0,none⟩=some (.int .i64 0):=hbk.cellS rfl
         have k1:WW.cell? ⟨w.heap.size+1,1,none⟩=some (.int .i64 0):=hbk.cellS rfl
         have k2:WW.cell? ⟨w.heap.size+1,2,none⟩=some (.int .i64 0):=hbk.cellS rfl
         have k3:WW.cell? ⟨w.heap.size+1,3,none⟩=some (.int .i64 0):=hbk.cellS rfl
         have k4:WW.cell? ⟨w.heap.size+1,4,none⟩=some (.int .i64 0):=hbk.cellS rfl
         have k5:WW.cell? ⟨w.heap.size+1,5,none⟩=some (.int .i64 0):=hbk.cellS rfl
         have k6:WW.cell? ⟨w.heap.size+1,6,none⟩=some (.int .i64 0):=hbk.cellS rfl
         have k7:WW.cell? ⟨w.heap.size+1,7,none⟩=some (.int .i64 0):=hbk.cellS rfl
         have k8:WW.cell? ⟨w.heap.size+1,8,none⟩=some (.string ⟨#[]⟩):=hbk.cellS rfl
         have k9:WW.cell? ⟨w.heap.size+1,9,none⟩=some (.slice none 0 0):=hbk.cellS rfl
         clear hWW hbk
         refine bodyPost_ret (v:= .tuple #[ansV (An.zero 0) (.slice none 0 0),.int .i64 0]) (by simp [results,Tryz.results74,go_sem,ansV,An.zero,k0,k1,k2,k3,k4,k5,k6,k7,k8,k9,str]) rfl ?_
         exact try_ok (H':=⟨S',A',H.Ws.set i {y with root:=r,P:=evN y.b y.l n y.P,k:=κ},H.ser,H.K⟩) HSL.out HL.out HS7.out (by have e:=HL7.out;simpa only [List.length_set] using e) HSQ6.out.gr.st.toOth rfl HGG.out (rd_none _) new_none hmd
        ·have hb8:(bad !=0)=true:=by simp [hb]
         have hb9:(bad==0)=false:=beq_eq_false_iff_ne.2 hb
         have HBD:=Lib.hid hb
         have HNT:Hid (q.n.toNat=n):=by show _=_;rw [HNN.out];simp
         have HX0:Hid (stepX H q=0):=by
          show _=_
          unfold stepX
          rw [if_neg (fun hz=>hz HX.out.symm),if_neg (by rw [HNN.out];have:=HNN30.out;omega),HI'.out,HY.out]
          show (if _ then (3:Int) else 0)=0
          rw [if_neg]
          rintro ⟨g1,g2⟩
          rw [HNN.out] at g2
          rcases HGO.out with q | q
          ·rw [g1] at q;cases q
          ·omega
         have HF:Hid (StepF H q t bad ⟨S',A',H.Ws,H.ser,H.K⟩):=by
          refine .inr ⟨HX0.out,y,L,by rw [HI'.out];exact HY.out,HSQ6.out.len,?_,?_⟩
          ·rw [HNT.out];exact HSQ6.out.nam
          ·rw [HNT.out];exact HSQ6.out.gr
         have HSTT:Hid (St t H.S H.A S' A'):=HSQ6.out.gr.st
         clear hb
         have zb:=HN6.out
         have z0:wc.cell? ⟨w.heap.size+1,0,none⟩=some (.int .i64 0):=zb.cellS rfl
         have z1:wc.cell? ⟨w.heap.size+1,1,none⟩=some (.int .i64 0):=zb.cellS rfl
         have z2:wc.cell? ⟨w.heap.size+1,2,none⟩=some (.int .i64 0):=zb.cellS rfl
         have z3:wc.cell? ⟨w.heap.size+1,3,none⟩=some (.int .i64 0):=zb.cellS rfl
         have z4:wc.cell? ⟨w.heap.size+1,4,none⟩=some (.int .i64 0):=zb.cellS rfl
         have z5:wc.cell? ⟨w.heap.size+1,5,none⟩=some (.int .i64 0):=zb.cellS rfl
         have z6:wc.cell? ⟨w.heap.size+1,6,none⟩=some (.int .i64 0):=zb.cellS rfl
         have z7:wc.cell? ⟨w.heap.size+1,7,none⟩=some (.int .i64 0):=zb.cellS rfl
         have z8:wc.cell? ⟨w.heap.size+1,8,none⟩=some (.string ⟨#[]⟩):=zb.cellS rfl
         have z9:wc.cell? ⟨w.heap.size+1,9,none⟩=some (.slice none 0 0):=zb.cellS rfl
         have zf0:=zb.frozen 0
         have zf1:=zb.frozen 1
         have zf2:=zb.frozen 2
         have zf3:=zb.frozen 3
         have zf4:=zb.frozen 4
         have zf5:=zb.frozen 5
         have zf6:=zb.frozen 6
         have zf7:=zb.frozen 7
         have zf8:=zb.frozen 8
         have zf9:=zb.frozen 9
         go_wp2_with fail
         obtain ⟨hbk,hmd⟩:=an_refused HN6.out 0
         generalize hWW:World.setCell _ _ _=WW at hbk hmd ⊢
         have k0:WW.cell? ⟨w.heap.size+1,0,none⟩=some (.int .i64 0):=hbk.cellS rfl
         have k1:WW.cell? ⟨w.heap.size+1,1,none⟩=some (.int .i64 0):=hbk.cellS rfl
         have k2:WW.cell? ⟨w.heap.size+1,2,none⟩=some (.int .i64 0):=hbk.cellS rfl
         have k3:WW.cell? ⟨w.heap.size+1,3,none⟩=some (.int .i64 0):=hbk.cellS rfl
         have k4:WW.cell? ⟨w.heap.size+1,4,none⟩=some (.int .i64 0):=hbk.cellS rfl
         have k5:WW.cell? ⟨w.heap.size+1,5,none⟩=some (.int .i64 0):=hbk.cellS rfl
         have k6:WW.cell? ⟨w.heap.size+1,6,none⟩=some (.int .i64 0):=hbk.cellS rfl
         have k7:WW.cell? ⟨w.heap.size+1,7,none⟩=some (.int .i64 0):=hbk.cellS rfl
         have k8:WW.cell? ⟨w.heap.size+1,8,none⟩=some (.string ⟨#[]⟩):=hbk.cellS rfl
         have k9:WW.cell? ⟨w.heap.size+1,9,none⟩=some (.slice none 0 0):=hbk.cellS rfl
         clear hWW hbk
         refine bodyPost_ret (v:= .tuple #[ansV (An.zero 0) (.slice none 0 0),.int .i64 bad]) (by simp [results,Tryz.results74,go_sem,ansV,An.zero,k0,k1,k2,k3,k4,k5,k6,k7,k8,k9,str]) rfl ?_
         exact try_no (H':=⟨S',A',H.Ws,H.ser,H.K⟩) HSL.out HL.out HS6.out HL6.out HSTT.out ⟨rfl,rfl,rfl⟩ HBD.out HF.out hmd
 ·have HX0:=Lib.hid hx0
  have hxb:(x !=0)=true:=by simp [hx0]
  have hxe:(x==0)=false:=beq_eq_false_iff_ne.2 hx0
  have HF:Hid (StepF H q t x H):= .inl ⟨by unfold stepX;rw [if_pos (by rw [←HX.out];exact HX0.out)];exact HX.out.symm,rfl⟩
  clear hx0
  have zb:=HN1.out
  have z0:w1.cell? ⟨w.heap.size+1,0,none⟩=some (.int .i64 0):=zb.cellS rfl
  have z1:w1.cell? ⟨w.heap.size+1,1,none⟩=some (.int .i64 0):=zb.cellS rfl
  have z2:w1.cell? ⟨w.heap.size+1,2,none⟩=some (.int .i64 0):=zb.cellS rfl
  have z3:w1.cell? ⟨w.heap.size+1,3,none⟩=some (.int .i64 0):=zb.cellS rfl
  have z4:w1.cell? ⟨w.heap.size+1,4,none⟩=some (.int .i64 0):=zb.cellS rfl
  have z5:w1.cell? ⟨w.heap.size+1,5,none⟩=some (.int .i64 0):=zb.cellS rfl
  have z6:w1.cell? ⟨w.heap.size+1,6,none⟩=some (.int .i64 0):=zb.cellS rfl
  have z7:w1.cell? ⟨w.heap.size+1,7,none⟩=some (.int .i64 0):=zb.cellS rfl
  have z8:w1.cell? ⟨w.heap.size+1,8,none⟩=some (.string ⟨#[]⟩):=zb.cellS rfl
  have z9:w1.cell? ⟨w.heap.size+1,9,none⟩=some (.slice none 0 0):=zb.cellS rfl
  have zf0:=zb.frozen 0
  have zf1:=zb.frozen 1
  have zf2:=zb.frozen 2
  have zf3:=zb.frozen 3
  have zf4:=zb.frozen 4
  have zf5:=zb.frozen 5
  have zf6:=zb.frozen 6
  have zf7:=zb.frozen 7
  have zf8:=zb.frozen 8
  have zf9:=zb.frozen 9
  go_wp2_with fail
  obtain ⟨hbk,hmd⟩:=an_refused HN1.out 0
  generalize hWW:World.setCell _ _ _=WW at hbk hmd ⊢
  have k0:WW.cell? ⟨w.heap.size+1,0,none⟩=some (.int .i64 0):=hbk.cellS rfl
  have k1:WW.cell? ⟨w.heap.size+1,1,none⟩=some (.int .i64 0):=hbk.cellS rfl
  have k2:WW.cell? ⟨w.heap.size+1,2,none⟩=some (.int .i64 0):=hbk.cellS rfl
  have k3:WW.cell? ⟨w.heap.size+1,3,none⟩=some (.int .i64 0):=hbk.cellS rfl
  have k4:WW.cell? ⟨w.heap.size+1,4,none⟩=some (.int .i64 0):=hbk.cellS rfl
  have k5:WW.cell? ⟨w.heap.size+1,5,none⟩=some (.int .i64 0):=hbk.cellS rfl
  have k6:WW.cell? ⟨w.heap.size+1,6,none⟩=some (.int .i64 0):=hbk.cellS rfl
  have k7:WW.cell? ⟨w.heap.size+1,7,none⟩=some (.int .i64 0):=hbk.cellS rfl
  have k8:WW.cell? ⟨w.heap.size+1,8,none⟩=some (.string ⟨#[]⟩):=hbk.cellS rfl
  have k9:WW.cell? ⟨w.heap.size+1,9,none⟩=some (.slice none 0 0):=hbk.cellS rfl
  clear hWW hbk
  refine bodyPost_ret (v:= .tuple #[ansV (An.zero 0) (.slice none 0 0),.int .i64 x]) (by simp [results,Tryz.results74,go_sem,ansV,An.zero,k0,k1,k2,k3,k4,k5,k6,k7,k8,k9,str]) rfl ?_
  exact try_no HSL.out HL.out HS1.out HL1.out (St.refl HL.out.ar.rel t) ⟨rfl,rfl,rfl⟩ HX0.out HF.out hmd
end Go.Proofs.YthohnjgnpapnoaaGreatDoor
