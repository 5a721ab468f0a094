/- hall: try: copy. · A set of numbers: map[int]struct{}. · arena: Clean. · hall: cleaning that keeps many roots: plain words. -/
import Derived.Test.YthohnjgnpapnoaaGreatDoorR32
import Derived.Test.YthohnjgnpapnoaaGreatDoorR25
import Derived.Test.YthohnjgnpapnoaaGreatDoorR16
import Derived.Test.YthohnjgnpapnoaaGreatDoorR6
import Derived.Test.YthohnjgnpapnoaaGreatDoorR21
import Derived.Test.YthohnjgnpapnoaaGreatDoorR7
import Derived.Carry
set_option linter.unusedVariables false
set_option linter.unusedSimpArgs false
namespace Go.Proofs.YthohnjgnpapnoaaGreatDoor
open Go.RowKit
def NoC (_:List Thing):Prop:=True
def CopyF (H:HS) (q:SReq) (t:Nat) (x:Int) (H':HS):Prop:=(hfind H.Ws H.K q.name 1).2=x∧H'=H∨(hfind H.Ws H.K q.name 1).2=0∧∃y,H.Ws[(hfind H.Ws H.K q.name 1).1]? =some y∧AddF H q.other y.b y.l t NoC x H'
def CopyG (H:HS) (q:SReq) (t:Nat) (a:An) (H':HS):Prop:=(hfind H.Ws H.K q.name 1).2=0∧∃y,H.Ws[(hfind H.Ws H.K q.name 1).1]? =some y∧AddG H q.other y.P y.k y.b y.l t NoC a H'
set_option maxRecDepth 100000 in
set_option maxHeartbeats 12800000 in
theorem try_copy (w:World) (h p:Nat) (R:ArR) (H:HS) (t:Nat) (d:Int) (wv kv:Value) (HH:Hl w h p R H.S H.A t d H.Ws wv H.ser H.K kv) (q:SReq) (qA:Option Addr) (qn qcap:Nat) (hn:q.name.length≤4294967296) (hno:q.other.length≤4294967296) (hv:q.verb=8):
 Calls Tryz.prog 47 #[.pointer (some ⟨h,0,none⟩),reqV q (.slice qA qn qcap)] w (TryP w h p R H t d wv kv (CopyF H q t) (CopyG H q t)):=by
 have HL:=Lib.hid HH
 have HFN:=Lib.hid (fun w1 (h1:HlR w1 h p t d H.Ws wv H.ser H.K kv)=>hfind_any w1 h p t d H.Ws wv H.ser H.K kv h1 q.name hn 1)
 have hv1:(q.verb==1)=false:=by simp [hv]
 have hv2:(q.verb==2)=false:=by simp [hv]
 have hv3:(q.verb==3)=false:=by simp [hv]
 have hv5:(q.verb==5)=false:=by simp [hv]
 have hv6:(q.verb==6)=false:=by simp [hv]
 have hv4:(q.verb==4)=false:=by simp [hv]
 have hv7:(q.verb==7)=false:=by simp [hv]
 have hv8:(q.verb==8)=true:=by simp [hv]
 clear HH hv
 unfold reqV
 go_enter Tryz.func47,Tryz.ntmps47
 go_wp2_with fail
 generalize hw0:World.alloc (World.alloc (World.alloc w _) _) _=w0
 obtain ⟨s1,q0,n0,s0,hh0,s00⟩:=slots3 w h q (.slice qA qn qcap) (w0:=w0) hw0
 have HSL:=Lib.hid s1
 have HSQ:=Lib.hid s0
 have HQ0:=Lib.hid q0
 have HN0:=Lib.hid n0
 have HL0:=Lib.hid (HL.out.below s1.bel)
 have HH0:=Lib.hid hh0
 have HSH:=Lib.hid s00
 clear hw0 q0 n0 s0 hh0 s00 s1
 (with_reducible refine (HFN.out _ HL0.out.r).mono ?_)
 rintro e w1 ⟨ptr,rfl,hb1,hp0,hp1⟩
 have HL1:=Lib.hid (HL0.out.below hb1)
 have HS1:Hid (HStep h p R wv kv R wv kv w0 w1):=HStep.arena (StepH.of_below hb1)
 have HN1:=Lib.hid (HSL.out.keep HL.out HS1.out HN0.out)
 have HQ1:=Lib.hid (HSQ.out.keep HL.out HS1.out HQ0.out)
 have HP1:=Lib.hid hp1
 have HB1:=Lib.hid hb1
 clear hb1 hp0 hp1 HFN
 obtain ⟨x,hx⟩:∃x,x=(hfind H.Ws H.K q.name 1).2:=⟨_,rfl⟩
 rw [←hx]
 have HX:=Lib.hid hx
 clear hx
 by_cases hx0:x=0
 ·subst hx0
  obtain ⟨hil,b,off,cap,hwv,hptr⟩:=HP1.out HX.out.symm
  subst hptr
  subst hwv
  generalize hi:(hfind H.Ws H.K q.name 1).1=i at*
  have HI':=Lib.hid hi
  clear hi
  obtain ⟨y,hy⟩:∃y,H.Ws[i]? =some y:=⟨_,List.getElem?_eq_getElem hil⟩
  have HY:=Lib.hid hy
  have HGY:=Lib.hid (HL1.out.good y (List.mem_of_getElem? hy))
  obtain ⟨b7,off7,cap7,hv7,_,_,d0,d1,d2,d3⟩:=ws_cells HL1.out.ws HY.out
  injection hv7 with hv7 _ hcap7
  injection hv7 with hv7
  injection hv7 with hb7 ho7 _
  subst hb7
  subst ho7
  clear hy hcap7
  have hb2:Below w1.heap.size w1 (w1.alloc (.cells #[.string (str y.name),.int .i64 y.root,.int .i64 y.b,.int .i64 y.l] 137)):=(Below.refl _ _).alloc (Nat.le_refl _) _
  have HL2:=Lib.hid (HL1.out.below hb2)
  have HS2:=Lib.hid (HS1.out.below hb2)
  have HN2:=Lib.hid (HSL.out.keep HL.out HS2.out HN0.out)
  have HQ2:=Lib.hid (HSQ.out.keep HL.out HS2.out HQ0.out)
  have HH2:=Lib.hid (HSH.out.keep HL.out HS2.out HH0.out)
  have HF2:Hid (Blk (w1.alloc (.cells #[.string (str y.name),.int .i64 y.root,.int .i64 y.b,.int .i64 y.l] 137)) w1.heap.size 137 #[.string (str y.name),.int .i64 y.root,.int .i64 y.b,.int .i64 y.l]):=Blk.new _ _ _
  have HSL2:Hid (Slot w (w1.alloc (.cells #[.string (str y.name),.int .i64 y.root,.int .i64 y.b,.int .i64 y.l] 137)) (w.heap.size+1+1)):=⟨(HSL.out.bel.trans (HB1.out.mono HSL.out.bel.size)).trans (hb2.mono (Nat.le_trans HSL.out.bel.size HB1.out.size)),HSL.out.lo,Nat.lt_of_lt_of_le HSL.out.hi (Nat.le_trans HB1.out.size hb2.size)⟩
  have q2:((w1.alloc (.cells #[.string (str y.name),.int .i64 y.root,.int .i64 y.b,.int .i64 y.l] 137))).cell? ⟨w.heap.size+1,2,none⟩=some (.string (str q.other)):=HQ2.out.cellS rfl
  have hc:((w1.alloc (.cells #[.string (str y.name),.int .i64 y.root,.int .i64 y.b,.int .i64 y.l] 137))).cell? ⟨w.heap.size,0,none⟩=some (.pointer (some ⟨h,0,none⟩)):=HH2.out.cellS rfl
  have f2:((w1.alloc (.cells #[.string (str y.name),.int .i64 y.root,.int .i64 y.b,.int .i64 y.l] 137))).cell? ⟨w1.heap.size,2,none⟩=some (.int .i64 y.b):=HF2.out.cellS rfl
  have f3:((w1.alloc (.cells #[.string (str y.name),.int .i64 y.root,.int .i64 y.b,.int .i64 y.l] 137))).cell? ⟨w1.heap.size,3,none⟩=some (.int .i64 y.l):=HF2.out.cellS rfl
  clear hb2
  go_wp2_with fail
  clear q2 hc f2 f3 d0 d1 d2 d3
  generalize World.alloc w1 _=w2 at*
  have hgr:(-9223372036854775808≤y.b∧y.b≤9223372036854775807):=by
   obtain ⟨⟨b0,b1⟩,_⟩:=HGY.out.rule
   exact ⟨by omega,by omega⟩
  have HCT:=Lib.hid (add_any w2 h p R H t d (.slice (some ⟨b,off,none⟩) H.Ws.length cap) kv HL2.out q.other hno y.b y.l hgr y.P y.k HGY.out.k1 HGY.out.k40 HGY.out.supp HGY.out.ok NoC 77 #[.pointer (some ⟨w1.heap.size,0,none⟩)] (fun w=>enters_copy _ w)
   (fun w3 hb3=>copyOf_any w3 p R H.S H.A t (HL2.out.below hb3).ar y HGY.out.has w1.heap.size (HF2.out.mod (Mod.of_below_all hb3) id)))
  clear hgr
  (with_reducible refine HCT.out.mono ?_)
  intro e w4 hq
  obtain ⟨a,vA,vn,vcap,x,rfl,hbk,hfin⟩:=try_pass HSL2.out HL.out HN2.out hq (F':=CopyF H q t) (G':=CopyG H q t) (fun _ _ g=> .inr ⟨HX.out.symm,y,by rw [HI'.out];exact HY.out,g⟩) (fun _ _ g=>⟨HX.out.symm,y,by rw [HI'.out];exact HY.out,g⟩)
  have HN4:=Lib.hid hbk
  have HFN:=Lib.hid hfin
  clear hbk hfin hq
  unfold ansV
  have zb:=HN4.out
  have z0:w4.cell? ⟨w.heap.size+1+1,0,none⟩=some (.int .i64 0):=zb.cellS rfl
  have z1:w4.cell? ⟨w.heap.size+1+1,1,none⟩=some (.int .i64 0):=zb.cellS rfl
  have z2:w4.cell? ⟨w.heap.size+1+1,2,none⟩=some (.int .i64 0):=zb.cellS rfl
  have z3:w4.cell? ⟨w.heap.size+1+1,3,none⟩=some (.int .i64 0):=zb.cellS rfl
  have z4:w4.cell? ⟨w.heap.size+1+1,4,none⟩=some (.int .i64 0):=zb.cellS rfl
  have z5:w4.cell? ⟨w.heap.size+1+1,5,none⟩=some (.int .i64 0):=zb.cellS rfl
  have z6:w4.cell? ⟨w.heap.size+1+1,6,none⟩=some (.int .i64 0):=zb.cellS rfl
  have z7:w4.cell? ⟨w.heap.size+1+1,7,none⟩=some (.int .i64 0):=zb.cellS rfl
  have z8:w4.cell? ⟨w.heap.size+1+1,8,none⟩=some (.string ⟨#[]⟩):=zb.cellS rfl
  have z9:w4.cell? ⟨w.heap.size+1+1,9,none⟩=some (.slice none 0 0):=zb.cellS rfl
  have zf0:=zb.frozen 0
  have zf1:=zb.frozen 1
  have zf2:=zb.frozen 2
  have zf3:=zb.frozen 3
  have zf4:=zb.frozen 4
  have zf5:=zb.frozen 5
  have zf6:=zb.frozen 6
  have zf7:=zb.frozen 7
  have zf8:=zb.frozen 8
  have zf9:=zb.frozen 9
  go_wp2_with fail
  have hbm:Blk ((((((((((w4.setCell ⟨w.heap.size+1+1,0,none⟩ (.int .i64 a.code)).setCell ⟨w.heap.size+1+1,1,none⟩ (.int .i64 a.n)).setCell ⟨w.heap.size+1+1,2,none⟩ (.int .i64 a.x0)).setCell ⟨w.heap.size+1+1,3,none⟩ (.int .i64 a.y0)).setCell ⟨w.heap.size+1+1,4,none⟩ (.int .i64 a.x1)).setCell ⟨w.heap.size+1+1,5,none⟩ (.int .i64 a.y1)).setCell ⟨w.heap.size+1+1,6,none⟩ (.int .i64 a.b)).setCell ⟨w.heap.size+1+1,7,none⟩ (.int .i64 a.l)).setCell ⟨w.heap.size+1+1,8,none⟩ (.string (str a.key))).setCell ⟨w.heap.size+1+1,9,none⟩ (.slice vA vn vcap)) (w.heap.size+1+1) 57 (anC a (.slice vA vn vcap))∧Mod (fun b=>b=w.heap.size+1+1) w4 ((((((((((w4.setCell ⟨w.heap.size+1+1,0,none⟩ (.int .i64 a.code)).setCell ⟨w.heap.size+1+1,1,none⟩ (.int .i64 a.n)).setCell ⟨w.heap.size+1+1,2,none⟩ (.int .i64 a.x0)).setCell ⟨w.heap.size+1+1,3,none⟩ (.int .i64 a.y0)).setCell ⟨w.heap.size+1+1,4,none⟩ (.int .i64 a.x1)).setCell ⟨w.heap.size+1+1,5,none⟩ (.int .i64 a.y1)).setCell ⟨w.heap.size+1+1,6,none⟩ (.int .i64 a.b)).setCell ⟨w.heap.size+1+1,7,none⟩ (.int .i64 a.l)).setCell ⟨w.heap.size+1+1,8,none⟩ (.string (str a.key))).setCell ⟨w.heap.size+1+1,9,none⟩ (.slice vA vn vcap)):=an_stored HN4.out a (.slice vA vn vcap)
  obtain ⟨hbk,hmd⟩:=hbm
  generalize hWW:World.setCell _ _ _=WW at hbk hmd ⊢
  have k0:WW.cell? ⟨w.heap.size+1+1,0,none⟩=some (.int .i64 a.code):=hbk.cellS rfl
  have k1:WW.cell? ⟨w.heap.size+1+1,1,none⟩=some (.int .i64 a.n):=hbk.cellS rfl
  have k2:WW.cell? ⟨w.heap.size+1+1,2,none⟩=some (.int .i64 a.x0):=hbk.cellS rfl
  have k3:WW.cell? ⟨w.heap.size+1+1,3,none⟩=some (.int .i64 a.y0):=hbk.cellS rfl
  have k4:WW.cell? ⟨w.heap.size+1+1,4,none⟩=some (.int .i64 a.x1):=hbk.cellS rfl
  have k5:WW.cell? ⟨w.heap.size+1+1,5,none⟩=some (.int .i64 a.y1):=hbk.cellS rfl
  have k6:WW.cell? ⟨w.heap.size+1+1,6,none⟩=some (.int .i64 a.b):=hbk.cellS rfl
  have k7:WW.cell? ⟨w.heap.size+1+1,7,none⟩=some (.int .i64 a.l):=hbk.cellS rfl
  have k8:WW.cell? ⟨w.heap.size+1+1,8,none⟩=some (.string (str a.key)):=hbk.cellS rfl
  have k9:WW.cell? ⟨w.heap.size+1+1,9,none⟩=some (.slice vA vn vcap):=hbk.cellS rfl
  clear hWW hbk
  refine bodyPost_ret (v:= .tuple #[ansV a (.slice vA vn vcap),.int .i64 x]) (by simp [results,Tryz.results47,go_sem,ansV,An.zero,k0,k1,k2,k3,k4,k5,k6,k7,k8,k9,str]) rfl ?_
  exact HFN.out _ hmd
 ·have HX0:=Lib.hid hx0
  have hxb:(x !=0)=true:=by simp [hx0]
  have hxe:(x==0)=false:=beq_eq_false_iff_ne.2 hx0
  have HF:Hid (CopyF H q t x H):= .inl ⟨HX.out.symm,rfl⟩
  clear hx0
  have zb:=HN1.out
  have z0:w1.cell? ⟨w.heap.size+1+1,0,none⟩=some (.int .i64 0):=zb.cellS rfl
  have z1:w1.cell? ⟨w.heap.size+1+1,1,none⟩=some (.int .i64 0):=zb.cellS rfl
  have z2:w1.cell? ⟨w.heap.size+1+1,2,none⟩=some (.int .i64 0):=zb.cellS rfl
  have z3:w1.cell? ⟨w.heap.size+1+1,3,none⟩=some (.int .i64 0):=zb.cellS rfl
  have z4:w1.cell? ⟨w.heap.size+1+1,4,none⟩=some (.int .i64 0):=zb.cellS rfl
  have z5:w1.cell? ⟨w.heap.size+1+1,5,none⟩=some (.int .i64 0):=zb.cellS rfl
  have z6:w1.cell? ⟨w.heap.size+1+1,6,none⟩=some (.int .i64 0):=zb.cellS rfl
  have z7:w1.cell? ⟨w.heap.size+1+1,7,none⟩=some (.int .i64 0):=zb.cellS rfl
  have z8:w1.cell? ⟨w.heap.size+1+1,8,none⟩=some (.string ⟨#[]⟩):=zb.cellS rfl
  have z9:w1.cell? ⟨w.heap.size+1+1,9,none⟩=some (.slice none 0 0):=zb.cellS rfl
  have zf0:=zb.frozen 0
  have zf1:=zb.frozen 1
  have zf2:=zb.frozen 2
  have zf3:=zb.frozen 3
  have zf4:=zb.frozen 4
  have zf5:=zb.frozen 5
  have zf6:=zb.frozen 6
  have zf7:=zb.frozen 7
  have zf8:=zb.frozen 8
  have zf9:=zb.frozen 9
  go_wp2_with fail
  obtain ⟨hbk,hmd⟩:=an_refused HN1.out 0
  generalize hWW:World.setCell _ _ _=WW at hbk hmd ⊢
  have k0:WW.cell? ⟨w.heap.size+1+1,0,none⟩=some (.int .i64 0):=hbk.cellS rfl
  have k1:WW.cell? ⟨w.heap.size+1+1,1,none⟩=some (.int .i64 0):=hbk.cellS rfl
  have k2:WW.cell? ⟨w.heap.size+1+1,2,none⟩=some (.int .i64 0):=hbk.cellS rfl
  have k3:WW.cell? ⟨w.heap.size+1+1,3,none⟩=some (.int .i64 0):=hbk.cellS rfl
  have k4:WW.cell? ⟨w.heap.size+1+1,4,none⟩=some (.int .i64 0):=hbk.cellS rfl
  have k5:WW.cell? ⟨w.heap.size+1+1,5,none⟩=some (.int .i64 0):=hbk.cellS rfl
  have k6:WW.cell? ⟨w.heap.size+1+1,6,none⟩=some (.int .i64 0):=hbk.cellS rfl
  have k7:WW.cell? ⟨w.heap.size+1+1,7,none⟩=some (.int .i64 0):=hbk.cellS rfl
  have k8:WW.cell? ⟨w.heap.size+1+1,8,none⟩=some (.string ⟨#[]⟩):=hbk.cellS rfl
  have k9:WW.cell? ⟨w.heap.size+1+1,9,none⟩=some (.slice none 0 0):=hbk.cellS rfl
  clear hWW hbk
  refine bodyPost_ret (v:= .tuple #[ansV (An.zero 0) (.slice none 0 0),.int .i64 x]) (by simp [results,Tryz.results47,go_sem,ansV,An.zero,k0,k1,k2,k3,k4,k5,k6,k7,k8,k9,str]) rfl ?_
  exact try_no HSL.out HL.out HS1.out HL1.out (St.refl HL.out.ar.rel t) ⟨rfl,rfl,rfl⟩ HX0.out HF.out hmd
end Go.Proofs.YthohnjgnpapnoaaGreatDoor
namespace Go.Proofs.YthohnjgnpapnoaaGreatDoor
open Go.RowKit Go.ChangeMaps Go.WideElems Go.WideMaps
theorem Tryz.zeroUnitK (w:World):(zeroValue 197).run Tryz.prog w= .ok (.agg #[]) w:=by kernel_rfl
def MapI (w:World) (b:Nat) (l:List Int):Prop:=
 ∃D:DataW Unit,w.ownsMap Tryz.prog 3 unitElem b l.length D∧Maps.size D=l.length∧∀x,i64r x→Maps.has D (.int .i64 x)=decide (x∈l)
section
variable {w w' : World} {b : Nat} {l : List Int}
theorem MapI.of_block (h:MapI w b l) (e:w'.heap[b]? =w.heap[b]?):MapI w' b l:=by obtain ⟨D,h1,h2⟩:=h;exact ⟨D,ownsMap_blockK h1 e,h2⟩
theorem MapI.lt (h:MapI w b l):b<w.heap.size:=by obtain ⟨D,h1,_⟩:=h;exact h1.lt
theorem MapI.made (w:World):MapI (w.alloc (.map #[] 0)) w.heap.size []:=⟨_,World.ownsMap_made w _ _ _,rfl,fun x _=>by simp [Maps.has]⟩
theorem MapI.drew (h:MapI w b l):MapI w.drew b l:=h.of_block rfl
theorem MapI.mod {T:Nat→Prop} (h:MapI w b l) (hm:Mod T w w') (hT:¬T b):MapI w' b l:=h.of_block (hm.block _ h.lt hT)
theorem MapI.alloc (h:MapI w b l) (o:Obj):MapI (w.alloc o) b l:=h.of_block (Below.heap_alloc w o b h.lt)
theorem MapI.size (h:MapI w b l):mapSize w b=l.length:=by
 obtain ⟨D,⟨es,clock,hb,F,hs,hD⟩,h2,_⟩:=h
 unfold mapSize
 rw [hb]
 rw [hD] at h2
 simp [Maps.size,length_sorted] at h2
 exact h2
theorem MapI.ne (h:MapI w b l) {p t:Nat} {cs:Array Value} (hp:Blk w p t cs):b≠p:=by
 rintro rfl
 obtain ⟨D,⟨es,clock,hb,_⟩,_⟩:=h
 unfold Blk at hp
 rw [hb] at hp
 cases hp
theorem MapI.look (h:MapI w b l) {x:Int} (hx:i64r x):
 (Instr.lookup 196 (.map (some b)) (.int .i64 x) true).run Tryz.prog w= .ok (.tuple #[.agg #[],.bool (decide (x∈l))]) w:=by
 obtain ⟨D,hown,_,h1⟩:=h
 obtain ⟨v,ps,hrun,hv⟩:=hown.look_ok Tryz.lawIntK Tryz.underlying196 (Tryz.zeroUnitK w) unitElem_mk (keyOf_i hx)
 obtain ⟨rfl,_⟩:=unitElem_inv hv
 rw [hrun,h1 x hx]
theorem MapI.put (h:MapI w b l) {x:Int} (hx:i64r x) (hn:x∉l) (hc:l.length<maxLen):
 ∃w',(Instr.mapUpdate 196 (.map (some b)) (.int .i64 x) (.agg #[])).run Tryz.prog w= .ok () w'∧MapI w' b (x::l)∧Mod (fun k=>k=b) w w':=by
 obtain ⟨D,hown,hs,h1⟩:=h
 obtain ⟨w',u1,u2,u3⟩:=hown.store Tryz.lawIntK Tryz.underlying196 hc (keyOf_i hx) unitElem_mk
 refine ⟨w',u1,⟨_,u2,?_,fun e he=>?_⟩,turned_modK u3⟩
 ·rw [Maps.size_put (hown.tidy Tryz.lawIntK),hs,h1 x hx,decide_eq_false hn];rfl
 ·by_cases hce:e=x
  ·subst hce
   rw [Maps.has_put_same hown.isMap (show WideAt.IsKeyLit (.int .i64 e) from trivial)];simp
  ·rw [Maps.has_put_other (by intro e2;injection e2 with _ e2;exact hce e2),h1 e he]
   simp [hce]
end
end Go.Proofs.YthohnjgnpapnoaaGreatDoor
namespace Go.Proofs.YthohnjgnpapnoaaGreatDoor
open Go.RowKit
def lenOf:Value→Nat
 | .slice _ n _=>n
 | _=>0
theorem Sl.chop {w:World} {t:TypeId} {b off m cap:Nat} {W:List Int} {x:Int} (h:Sl w t 1 (.slice (some ⟨b,off,none⟩) (m+1) cap) (m+1) (intsV (W++ [x]))):Sl w t 1 (.slice (some ⟨b,off,none⟩) m cap) m (intsV W):=by
 obtain ⟨h1,A,cap',e,c1,c2,c3,c4⟩:=h
 injection e with e1 _ e2
 subst e1;subst e2
 rw [intsV_len,List.length_append] at h1
 have hW:W.length=m:=by simp at h1;omega
 refine ⟨by rw [intsV_len];omega,_,_,rfl,by omega,c2,(fun h=>nomatch h),fun a ha=>?_⟩
 obtain ⟨cs,d1,d2,d3,d4⟩:=c4 a ha
 refine ⟨cs,d1,d2,d3,?_⟩
 have:(cs.toList.drop a.off).take (m*1)=((cs.toList.drop a.off).take ((m+1)*1)).take (m*1):=by rw [List.take_take];congr 1;omega
 rw [this,d4]
 unfold intsV
 rw [List.map_append,List.take_append_of_le_length (by simp;omega),List.take_of_length_le (by simp;omega)]
theorem Rd.kids {w:World} {b o:Nat} {e:EntD} (h1:w.cell? ⟨b,o+1,none⟩=some (.int .i64 e.key.a0)) (h2:w.cell? ⟨b,o+2,none⟩=some (.int .i64 e.key.a1)) (h3:w.cell? ⟨b,o+3,none⟩=some (.int .i64 e.key.a2)) (h4:w.cell? ⟨b,o+4,none⟩=some (.int .i64 e.key.a3)):
 Rd w (b+1) 1 (.slice (some ⟨b,o+1,none⟩) 4 4) 4 (intsV (kidsOf e)):=
 ⟨rfl,_,_,rfl,Nat.le_refl _,by unfold maxLen;omega,fun _=>⟨_,_,rfl,by omega,fun j u hj=>by
  have hlt:=(List.getElem?_eq_some_iff.1 hj).1
  have hlt:j<4:=hlt
  rcases (by omega:j=0∨j=1∨j=2∨j=3) with rfl | rfl | rfl | rfl
  ·cases hj;exact h1
  ·cases hj;exact h2
  ·cases hj;exact h3
  ·cases hj;exact h4⟩⟩
structure CleanW (w:World) (p:Nat) (R:ArR) (S:ArS) (t:Nat) (roots:List Int) (sv:Value) (wx:World) (K W:List Int):Prop where
 sl:Sl wx IT 1 sv W.length (intsV W)
 ci:CleanI S t roots K W
 map:MapI wx w.heap.size K
 arm:ArM wx p R S
 step:Step p R R w wx
 new:∀b,sblk sv=some b→w.heap.size≤b
 rng:∀x∈W,i64r x
 few:W.length≤1000+4*K.length
section
variable {w wx : World} {p : Nat} {R : ArR} {S : ArS} {t : Nat} {roots : List Int} {sv : Value} {K W : List Int}
theorem CleanW.skip {x:Int} {b off m cap:Nat} (h:CleanW w p R S t roots (.slice (some ⟨b,off,none⟩) (m+1) cap) wx K (W++ [x])) (hx:x∈K∨x<2∨ownsB S t x 0=false) (ob:Obj):
 CleanW w p R S t roots (.slice (some ⟨b,off,none⟩) m cap) (wx.alloc ob) K W:=by
 have hs:=h.sl
 have hl:(W++ [x]).length=m+1:=by obtain ⟨_,A,c,e,_⟩:=hs;injection e with _ e _;omega
 rw [hl] at hs
 have hW:W.length=m:=by simp at hl;exact hl
 refine ⟨by rw [hW];exact (hs.chop).alloc ob,h.ci.skip hx,h.map.alloc ob,h.arm.alloc ob,h.step.alloc ob,fun b' hb=>h.new b' hb,fun y hy=>h.rng y (List.mem_append_left _ hy),?_⟩
 have:=h.few
 simp at this;omega
theorem CleanW.chop3 {x:Int} {b off m cap:Nat} {w1:World} {ob:Obj} (hA:ArM w p R S) (h:CleanW w p R S t roots (.slice (some ⟨b,off,none⟩) (m+1) cap) wx K (W++ [x])) (hm1:Mod (fun q=>q=w.heap.size) (wx.alloc ob) w1):
 Sl w1 IT 1 (.slice (some ⟨b,off,none⟩) m cap) m (intsV W)∧ArM w1 p R S:=by
 have hs:=h.sl
 have hl:(W++ [x]).length=m+1:=by obtain ⟨_,A,c,e,_⟩:=hs;injection e with _ e _;omega
 rw [hl] at hs
 have hbm:w.heap.size≠b:=by
  obtain ⟨_,cs,hk'⟩:=hs.lt (b:=b) rfl
  exact h.map.ne hk'
 exact ⟨((hs.chop).alloc ob).mod hm1 fun q hq e=>hbm (by subst e;exact (Option.some.inj hq).symm),(h.arm.alloc ob).keep hm1 fun q hq e=>by have:=hA.own_lt hq;omega⟩
theorem CleanW.start (hA:ArM w p R S) {w2:World} (hs:Sl w2 IT 1 sv roots.length (intsV roots)) (hm:Mod (fun _=>False) (w.alloc (.map #[] 0)) w2) (hd:sblk sv=none∨sblk sv=some (w.alloc (.map #[] 0)).heap.size) (hr:∀x∈roots,i64r x) (hn:roots.length≤1000):
 CleanW w p R S t roots sv w2 [] roots:=by
 have hM:Mod (fun _=>False) w w2:=((Mod.refl (fun _=>False) w).alloc (.map #[] 0)).trans hm fun _ _ h=>h
 refine ⟨hs,CleanI.start S t roots,(MapI.made w).mod hm fun h=>h,hA.keep hM fun _ _ h=>h,⟨hM.mono fun _ _ h=>h.elim,fun _ h=> .inl h⟩,fun b hb=>?_,hr,by simp;omega⟩
 rcases hd with h | h
 ·rw [h] at hb;cases hb
 ·rw [h] at hb;have:=Option.some.inj hb;simp at this;omega
theorem CleanW.keep {i:Nat} {e:EntD} {b off m cap:Nat} {w1 w2:World} {v':Value} (hA:ArM w p R S) (hI:Inv S) (h:CleanW w p R S t roots (.slice (some ⟨b,off,none⟩) (m+1) cap) wx K (W++ [(i:Int)])) (hx:(i:Int)∉K) (h2:2≤i) (ho:ownsB S t i 0=true) (he:S.ents[i]? =some e) (ob:Obj)
 (hk:MapI w1 w.heap.size ((i:Int)::K)) (hm1:Mod (fun q=>q=w.heap.size) (wx.alloc ob) w1) (hs:Sl w2 IT 1 v' (m+4) (intsV W++intsV (kidsOf e))) (hm2:Mod (fun q=>some b=some q) w1 w2) (hd:sblk v'=some b∨sblk v'=some w1.heap.size):
 CleanW w p R S t roots v' w2 ((i:Int)::K) (W++kidsOf e):=by
 have hl:(W++ [(i:Int)]).length=m+1:=by obtain ⟨_,A,c,e,_⟩:=h.sl;injection e with _ e _;omega
 have hW:W.length=m:=by simp at hl;exact hl
 have hb:w.heap.size≤b:=h.new b rfl
 have hbm:w.heap.size≠b:=by
  obtain ⟨_,cs,hk'⟩:=h.sl.lt (b:=b) rfl
  exact h.map.ne hk'
 have hM0:Mod (fun q=>w.heap.size≤q) wx w2:=(((Mod.refl _ wx).alloc ob).trans hm1 fun q _ e=>by subst e;exact Nat.le_refl _).trans hm2 fun q _ e=>by have:=Option.some.inj e;omega
 have hci:=h.ci.keep hx h2 ho he
 have hw1:wx.heap.size≤w1.heap.size:=Nat.le_trans (by simp) hm1.size
 refine ⟨?_,hci,hk.mod hm2 fun e=>hbm (Option.some.inj e).symm,h.arm.keep hM0 fun q hq=>by have:=hA.own_lt hq;omega,?_,fun b' hb'=>?_,fun y hy=>?_,?_⟩
 ·have:intsV (W++kidsOf e)=intsV W++intsV (kidsOf e):=by unfold intsV;rw [List.map_append]
  rw [this,List.length_append,hW]
  exact hs
 ·exact ⟨h.step.mod.trans hM0 fun q hq hle=>by omega,fun _ h=> .inl h⟩
 ·rcases hd with h1 | h1
  ·rw [h1] at hb';have:=Option.some.inj hb';omega
  ·rw [h1] at hb';have:=Option.some.inj hb';have:=h.step.mod.size;omega
 ·rcases List.mem_append.1 hy with h1 | h1
  ·exact h.rng y (List.mem_append_left _ h1)
  ·have hok:=(hI.keys e (List.mem_of_getElem? he)).1
   obtain ⟨_,k0,k1,k2,k3⟩:=hok
   simp only [kidsOf,List.mem_cons,List.not_mem_nil,or_false] at h1
   rcases h1 with rfl | rfl | rfl | rfl
   ·exact k0
   ·exact k1
   ·exact k2
   ·exact k3
 ·have:=h.few
  simp only [List.length_append,List.length_cons,List.length_nil,kidsOf] at this ⊢;omega
end
def leftOut (K:List Int) (i:Nat):List Int:=((List.range i).filter fun j:Nat=>decide (2≤j)&& !decide ((j:Int)∈K)).map fun j:Nat=>(j:Int)
theorem leftOut_in {K:List Int} {i:Nat} (h:(i:Int)∈K):leftOut K (i+1)=leftOut K i:=by
 unfold leftOut;rw [List.range_succ,List.filter_append];simp [h]
theorem leftOut_out {K:List Int} {i:Nat} (h2:2≤i) (h:(i:Int)∉K):leftOut K (i+1)=leftOut K i++ [(i:Int)]:=by
 unfold leftOut;rw [List.range_succ,List.filter_append,List.map_append];simp [h,h2]
theorem leftOut_mem {K:List Int} {n i:Nat} (hi:i<n) (h2:2≤i):(i:Int)∈leftOut K n↔(i:Int)∉K:=by
 unfold leftOut
 rw [List.mem_map]
 constructor
 ·rintro ⟨j,hj,he⟩
  have:j=i:=by omega
  subst this
  rw [List.mem_filter] at hj
  have:=hj.2
  simp at this
  exact this.2
 ·intro h
  exact ⟨i,List.mem_filter.2 ⟨List.mem_range.2 hi,by simp [h2,h]⟩,rfl⟩
theorem leftOut_rng {K:List Int} {n:Nat}:∀x∈leftOut K n,∃i:Nat,x=i∧2≤i∧i<n:=by
 intro x hx
 unfold leftOut at hx
 obtain ⟨j,hj,he⟩:=List.mem_map.1 hx
 rw [List.mem_filter] at hj
 have:=hj.2
 simp at this
 exact ⟨j,he.symm,this.1,List.mem_range.1 hj.1⟩
def CleanPost (w:World) (p:Nat) (R:ArR) (S:ArS) (t:Nat) (roots:List Int) (e:Ending) (w':World):Prop:=
 ∃(S':ArS) (R':ArR),e= .returned (.int .i64 (S.count t-S'.count t))∧CleanR S t roots S'∧ArM w' p R' S'∧Step p R R' w w'
set_option maxRecDepth 100000 in
set_option maxHeartbeats 3200000 in
theorem clean_any (w:World) (p:Nat) (R:ArR) (S:ArS) (h:ArM w p R S) (hI:Inv S) (t:Nat) (ht:t<64) (v:Value) (n:Nat) (roots:List Int) (hv:Sl w IT 1 v n (intsV roots)) (hn:n≤1000) (hro:∀x∈roots,i64r x):
 Calls Tryz.prog 79 #[.pointer (some ⟨p,0,none⟩),.int .i64 t,v] w (CleanPost w p R S t roots):=by
 have H:=Lib.hid h
 have HI:=Lib.hid hI
 have HV:=Lib.hid hv
 have HRO:=Lib.hid hro
 have k4:(t:Int)<64:=by omega
 obtain ⟨A,cap,rfl,hc1,hc2⟩:=hv.form
 clear h hI hro hv
 go_enter Tryz.func79,Tryz.ntmps79
 go_wp2_with fail
 (with_reducible refine (tenant_any _ t).mono ?_)
 rintro e wq ⟨rfl,rfl⟩
 rw [decide_eq_true (show 0≤(t:Int)∧(t:Int)<64 by omega)]
 have HNO:Hid (¬Own p R w.heap.size):=fun hb=>Nat.lt_irrefl _ (H.out.own_lt hb)
 have hmm:=@run_makeMap Tryz.prog
 have HX:Hid (Rd (w.alloc (.map #[] 0)) (w.alloc (.map #[] 0)).heap.size 1 (.slice A n cap) n (intsV roots)):=(HV.out.alloc _).rd
 go_wp2_with (at_builtin;go_loud (refine wpList_append_sl _ rfl (.const (.slice none 0 0)) (.tmp 24) 24 rfl IT (.int .i64 0) 1 8 Tryz.underlying24 Tryz.infoInt rfl (by decide) (v:= .slice none 0 0) (n:=0) (xs:=[]) rfl (Sl.nil _ _ _) rfl (by exact HX.out) (intsV_one roots) (by omega) (by unfold maxLen;omega) ?_);intro v' w2 hs2 hm2 hd2;obtain ⟨A',cap',rfl,g1,g2⟩:=hs2.form)
 have hrl:roots.length=n:=HV.out.out
 rw [Nat.zero_add,List.nil_append] at hs2
 rw [Nat.zero_add] at hd2 g1
 have HC:=Lib.hid (CleanW.start (t:=t) (sv:= .slice A' n cap') H.out (by rw [hrl];exact hs2) (hm2.mono fun b _ h=>by simp [sblk] at h) (by
  rcases hd2 with h | ⟨h,_⟩
  ·exact .inl h
  ·exact .inr h) HRO.out (by omega))
 have HRL:=Lib.hid hrl
 have G1:=Lib.hid g1
 have G2:=Lib.hid g2
 clear hm2 hs2 hd2 hmm hrl g1 g2 hc1 hc2 hn
 go_loopw [8] (fun sv wx=>∃K W,(∃A c,sv= .slice A W.length c∧W.length≤c∧c≤maxLen)∧CleanW w p R S t roots sv wx K W) (fun sv wx=>4*(S.ents.length-mapSize wx w.heap.size)+lenOf sv)
 case atStart=>exact ⟨[],roots,⟨A',cap',by rw [HRL.out],by rw [HRL.out];exact G1.out,G2.out⟩,HC.out⟩
 case round=>
  obtain ⟨K,W,⟨A2,cap2,rfl,e1,e2⟩,hcw⟩:=hrel
  have HCW:=Lib.hid hcw
  have HKL:=Lib.hid (hcw.ci.len HI.out)
  have HMS:=Lib.hid hcw.map.size
  rcases List.eq_nil_or_concat W with rfl | ⟨W,x,hW⟩
  ·have HDN:=Lib.hid (fun x=>hcw.ci.done HI.out x)
   have c1:=hcw.arm.cCount ht
   clear hcw
   clear e1
   go_wp2_with fail
   have HW1:=Lib.hid HCW.out.arm
   have HST1:=Lib.hid HCW.out.step
   have HK1:=Lib.hid HCW.out.map
   clear c1 HCW HMS HC HX HV
   generalize hLw:wr.heap.size=hz
   clear hLw
   go_loopw [13] (fun iv wx=>∃i:Nat,iv= .int .i64 i∧2≤i∧i≤S.ents.length∧ArM wx p R (loseL S t (leftOut K i))∧Step p R R w wx∧MapI wx w.heap.size K) (fun iv _=>S.ents.length-(intOf iv).toNat)
   case atStart=>exact ⟨2,rfl,Nat.le_refl _,HI.out.len,HW1.out,HST1.out,HK1.out⟩
   case round=>
    obtain ⟨i,rfl,hi2,hi,hA,hst,hK⟩:=hrel
    have hIi:=loseL_inv ht (leftOut K i) S HI.out
    have hcn:=hIi.cnt_le ht
    have hkp:=loseL_keeps t (leftOut K i) S
    have HA:=Lib.hid hA
    have HST:=Lib.hid hst
    have HKP:=Lib.hid hkp
    have HK:=Lib.hid hK
    obtain ⟨b,off,cap3,hlv,hc1,hc2,_⟩:=hA.ents (by have:=hIi.len;omega)
    have c0:=hA.cList
    rw [hlv,hkp.2.1] at c0
    by_cases hin:i<S.ents.length
    ·have hi64:i64r (i:Int):=⟨by omega,by have:=HI.out.lenN;omega⟩
     have hlk:=hK.look hi64
     have hlt:(i:Int)<(S.ents.length:Int):=by omega
     have hwi:=wrap_nat' i (by have:=HI.out.lenN;unfold maxLen;omega)
     have HIN:=Lib.hid hin
     have HI2:=Lib.hid hi2
     by_cases hk:(i:Int)∈K
     ·rw [decide_eq_true hk] at hlk
      have HKI:=Lib.hid hk
      clear hk hA hst hkp hK hIi hcn hin hi hi2 hi64 hlv hc1
      go_wp2_with fail
      go_roundw
      case rel=>exact ⟨i+1,by go_num,by have:=HI2.out;omega,HIN.out,by rw [leftOut_in HKI.out];exact HA.out.alloc _,HST.out.alloc _,HK.out.alloc _⟩
      case measure=>simp [intOf];have:=HIN.out;omega
     ·rw [decide_eq_false hk] at hlk
      have HKI:=Lib.hid hk
      have HLO:=Lib.hid (lose_any _ p R _ (HA.out.alloc (.cells #[] 197)) t ht i (by rw [hkp.2.1];exact hin) (by omega))
      clear hk hA hst hkp hK hIi hcn hin hi hi2 hi64 hlv hc1
      go_wp2_with fail
      (with_reducible refine HLO.out.mono ?_)
      rintro e w5 ⟨rfl,hm5,hs5⟩
      have HM5:Hid (ArM w5 p R (loseL S t (leftOut K (i+1)))):=by
       show ArM w5 p R _
       rw [leftOut_out HI2.out HKI.out,loseL_snoc,Int.toNat_natCast];exact hm5
      have HS5:Hid (Step p R R w w5):=(HST.out.alloc _).trans hs5
      have HK5:=Lib.hid ((HK.out.alloc (.cells #[] 197)).mod hs5.mod HNO.out)
      clear hm5 hs5
      go_wp2_with fail
      go_roundw
      case rel=>exact ⟨.int .i64 ((i:Int)+1),_,_,_,_,_,_,_,_,_,_,_,_,_,_,_,_,_,_,_,_,_,_,_,⟨i+1,by go_num,by have:=HI2.out;omega,HIN.out,HM5.out,HS5.out,HK5.out⟩,rfl⟩
      case measure=>simp [intOf];have:=HIN.out;omega
    ·have hge:(S.ents.length:Int)≤(i:Int):=by omega
     have hin':i=S.ents.length:=by omega
     rw [hin'] at HA
     have HIF:=Lib.hid (loseL_inv ht (leftOut K S.ents.length) S HI.out)
     have c1:=HA.out.cCount ht
     have f1:=HA.out.f (132+t)
     have c2:=HA.out.cAdded ht
     have hwr:IntKind.i64.wrap (S.count t-(loseL S t (leftOut K S.ents.length)).count t)=S.count t-(loseL S t (leftOut K S.ents.length)).count t:=by have:=HIF.out.cnt_le ht;have:=HI.out.cnt_le ht;rw [IntKind.wrap_i64];omega
     have HQ:=Lib.hid (HA.out.setAdded ht (l:=[]) (v:=nilV) (Sl.nil _ _ _) (fun b hb=>by simp [nilV,sblk] at hb))
     have HR:=Lib.hid (HST.out.trans (Step.added HA.out (t:=t) (v:=nilV) (fun b hb=>by simp [nilV,sblk] at hb)))
     have c3:(wr.setCell ⟨p,132+t,none⟩ (.slice none 0 0)).cell? ⟨p,4+t,none⟩=some (.int .i64 ((loseL S t (leftOut K S.ents.length)).count t)):=HQ.out.cCount ht
     clear hA hst hkp hK hIi hcn hin hi hi2 hlv hc1 hin'
     go_wp2_with fail
     go_returns
     refine ⟨{loseL S t (leftOut K S.ents.length) with added:=upd S.added t []},_,rfl,⟨leftOut K S.ents.length,leftOut_rng,fun i h2 hi=>?_,rfl⟩,?_,HR.out⟩
     ·rw [leftOut_mem hi h2,HDN.out]
     ·have:=HQ.out
      rw [(loseL_keeps t (leftOut K S.ents.length) S).1] at this
      exact this
  ·rw [List.concat_eq_append] at hW
   subst hW
   have hlw:(W++ [x]).length=W.length+1:=by simp
   rw [hlw] at hcw HCW e1 ⊢
   have hsl:=hcw.sl
   rw [hlw] at hsl
   obtain ⟨b,off,cap3,hA2,_,_,hbB,hc,_⟩:=hsl.at (by omega)
   injection hA2 with hA2 _ hcap;subst hA2;subst hcap
   have c0:wr.cell? ⟨b,off+W.length,none⟩=some (.int .i64 x):=hc W.length _ (intsV_at (by simp))
   have hlk:=hcw.map.look (hcw.rng x (by simp))
   have hfew:W.length≤1000+4*K.length:=by have:=hcw.few;simp at this;omega
   have hwn:wrap64 ((W.length:Nat):Int)=W.length:=by have:=HKL.out;have:=HI.out.lenN;unfold wrap64;omega
   have HFEW:=Lib.hid hfew
   clear hcw hc hsl hlw hfew
   generalize hm:W.length=m at*
   have HM:=Lib.hid hm
   clear hm
   have hil:(m:Int)<(m:Int)+1:=by omega
   by_cases hk:x∈K
   ·rw [decide_eq_true hk] at hlk
    go_wp2_with fail
    go_roundw
    case rel=>exact ⟨K,W,⟨_,cap2,by rw [HM.out],by rw [HM.out];omega,e2⟩,HCW.out.skip (.inl hk) _⟩
    case measure=>
     have h1:=(HCW.out.map.alloc (.cells #[] 197)).size
     have h2:=HCW.out.map.size
     rw [h1,h2]
     simp [lenOf]
   ·have hkf:=hk
    rw [decide_eq_false hk] at hlk
    have HKF:=Lib.hid hkf
    clear hk hkf
    by_cases h2:x<2
    ·go_wp2_with fail
     go_roundw
     case rel=>exact ⟨K,W,⟨_,cap2,by rw [HM.out],by rw [HM.out];omega,e2⟩,HCW.out.skip (.inr (.inl h2)) _⟩
     case measure=>
      have h1:=(HCW.out.map.alloc (.cells #[] 197)).size
      have h2:=HCW.out.map.size
      rw [h1,h2]
      simp [lenOf]
    ·have HO:=Lib.hid (owns_any _ p R S (HCW.out.arm.alloc (.cells #[] 197)) HI.out.len t ht x 0)
     cases hb:ownsB S t x 0
     ·rw [hb] at HO
      have HB:=Lib.hid hb
      clear hb
      go_wp2_with fail
      (with_reducible refine HO.out.mono ?_)
      rintro e wq ⟨rfl,rfl⟩
      go_wp2_with fail
      go_roundw
      case rel=>exact ⟨K,W,⟨_,cap2,by rw [HM.out],by rw [HM.out];omega,e2⟩,HCW.out.skip (.inr (.inr HB.out)) _⟩
      case measure=>
       have h1:=(HCW.out.map.alloc (.cells #[] 197)).size
       have h2:=HCW.out.map.size
       rw [h1,h2]
       simp [lenOf]
     ·rw [hb] at HO
      obtain ⟨i,e,rfl,hi,he⟩:=owns_range HI.out.len hb
      have HB:=Lib.hid hb
      have HE:=Lib.hid he
      have hil2:(i:Int)<(S.ents.length:Int):=by omega
      have hi64:=own_i64 HI.out hb
      clear hb he hi
      obtain ⟨w3,hput,hk3,hm3⟩:=(HCW.out.map.alloc (.cells #[] 197)).put hi64 HKF.out (by have:=HKL.out;have:=HI.out.lenN;unfold maxLen;omega)
      have HK3:=Lib.hid hk3
      have HM3:=Lib.hid hm3
      clear hk3 hm3 hi64
      go_wp2_with fail
      (with_reducible refine HO.out.mono ?_)
      rintro e9 wq ⟨rfl,rfl⟩
      obtain ⟨k1,k2⟩:=HCW.out.chop3 H.out HM3.out
      have HS3:=Lib.hid k1
      have HA3:=Lib.hid k2
      clear k1 k2
      obtain ⟨b2,off2,cap2',hlv,⟨d0,d1,d2,d3,d4,d5,d6,d7⟩,_⟩:=HA3.out.cells8 HE.out
      have c3:=HA3.out.cList
      rw [hlv] at c3
      have HX3:=Lib.hid (Rd.kids (e:=e) d1 d2 d3 d4)
      clear hlv d0 d1 d2 d3 d4 d5 d6 d7
      go_wp2_with (at_builtin;go_loud (refine wpList_append_sl _ rfl (.tmp 61) (.tmp 70) 24 rfl IT (.int .i64 0) 1 8 Tryz.underlying24 Tryz.infoInt rfl (by decide) rfl (by exact HS3.out) rfl (by exact HX3.out) (intsV_one _) (by have:=HFEW.out;have:=HM.out;have:=HKL.out;have:=HI.out.lenN;omega) (by have:=HFEW.out;have:=HM.out;have:=HKL.out;have:=HI.out.lenN;unfold maxLen;omega) ?_);intro v4 w4 hs4 hm4 hd4;obtain ⟨A4,cap4,rfl,g3,g4⟩:=hs4.form)
      have HN:=Lib.hid (HCW.out.keep (v':= .slice A4 (m+4) cap4) H.out HI.out HKF.out (by omega) HB.out HE.out (.cells #[] 197) HK3.out HM3.out hs4 hm4 (by
       rcases hd4 with h | ⟨h,_⟩
       ·exact .inl h
       ·exact .inr h))
      have hw4:(W++kidsOf e).length=m+4:=by rw [List.length_append,HM.out];rfl
      have HW4:=Lib.hid hw4
      have G3:=Lib.hid g3
      have G4:=Lib.hid g4
      clear hs4 hm4 hd4 hw4 g3 g4
      go_wp2_with fail
      go_roundw
      case rel=>exact ⟨(i:Int)::K,W++kidsOf e,⟨A4,cap4,by rw [HW4.out],by rw [HW4.out];exact G3.out,G4.out⟩,HN.out⟩
      case measure=>
       have h1:=HN.out.map.size
       have h2:=HCW.out.map.size
       have h3:=HN.out.ci.len HI.out
       rw [h1,h2]
       simp only [List.length_cons,lenOf] at h3 ⊢
       omega
end Go.Proofs.YthohnjgnpapnoaaGreatDoor
namespace Go.Proofs.YthohnjgnpapnoaaGreatDoor
open Go.RowKit
def keepL (roots:List Tree):Thing→Bool
 | .sq a b c d=>roots.any fun r=>decide (Tree.node a b c d∈subs r)
 | .note .. =>false
theorem keepL_sq {roots:List Tree} {a b c d:Tree}:keepL roots (.sq a b c d)=true↔∃r∈roots,Tree.node a b c d∈subs r:=by
 simp [keepL]
section
variable {S S' : ArS} {A : Nat → Abs} {t : Nat}
theorem reach_subL (h:Rel S A) {roots:List (Tree×Int)} (hd:∀r∈roots,Den S r.2 r.1) {x:Int} (hr:Reach S t (roots.map Prod.snd) x):∃r∈roots,∃y∈subs r.1,Den S x y:=by
 induction hr with
 | root x h1 h2 h3=>
   obtain ⟨r,hr,rfl⟩:=List.mem_map.1 h1
   exact ⟨r,hr,r.1,subs_self _,hd r hr⟩
 | kid i e x hp he hx h2 h3 ih=>
   obtain ⟨r,hr,y,hy,hyd⟩:=ih
   obtain ⟨hp2,_⟩:=hp.own
   obtain ⟨a,b,c,d,rfl⟩:=hyd.ge2 h.inv hp2
   simp only [Den] at hyd
   obtain ⟨i',e',q1,q2,q3,q4,q5,g0,g1,g2,g3⟩:=hyd
   have:i=i':=by omega
   subst this
   rw [he] at q2;cases q2
   have key:∀z,z∈subs a++subs b++subs c++subs d→z∈subs r.1:=fun z hz=>subs_trans r.1 hy (List.mem_cons_of_mem _ hz)
   simp only [kidsOf,List.mem_cons,List.not_mem_nil,or_false] at hx
   rcases hx with rfl | rfl | rfl | rfl
   ·exact ⟨r,hr,a,key _ (by simp [subs_self a]),g0⟩
   ·exact ⟨r,hr,b,key _ (by simp [subs_self b]),g1⟩
   ·exact ⟨r,hr,c,key _ (by simp [subs_self c]),g2⟩
   ·exact ⟨r,hr,d,key _ (by simp [subs_self d]),g3⟩
theorem Rel.cleanL (h:Rel S A) (ht:t<64) {roots:List (Tree×Int)} (hd:∀r∈roots,Has S A t r.2 r.1) (hc:CleanR S t (roots.map Prod.snd) S'):
 Rel S' (upd A t ⟨(A t).have_.filter (keepL (roots.map Prod.fst)),[]⟩)∧Twin S S'∧S'.quota=S.quota∧S'.room=S.room:=by
 obtain ⟨L,h1,h2,rfl⟩:=hc
 have hle:=loseL_less t L S
 have hroot:∀r∈roots,2≤r.2→Reach S t (roots.map Prod.snd) r.2:=fun r hr h2=> .root r.2 (List.mem_map.2 ⟨r,hr,rfl⟩) h2 (by rw [h.owns ht (hd r hr).1];exact (hd r hr).2)
 have:=h.lose ht (L:=L) (P:=keepL (roots.map Prod.fst)) (fun x hx=>by obtain ⟨i,e,_⟩:=h1 x hx;exact ⟨i,e⟩) (fun i e x he hb hdx=>by
  have hi2:=(h.inv.own i e he (testBit_ne hb)).1
  rw [h2 i hi2 (List.getElem?_eq_some_iff.1 he).1]
  cases x with
  | sq a b c d=>
    have hiff:Reach S t (roots.map Prod.snd) (i:Int)↔keepL (roots.map Prod.fst) (.sq a b c d)=true:=by
     rw [keepL_sq]
     constructor
     ·intro hr
      obtain ⟨r,hrm,y,hy,hyd⟩:=reach_subL h (fun r hr=>(hd r hr).1) hr
      refine ⟨r.1,List.mem_map.2 ⟨r,hrm,rfl⟩,?_⟩
      rw [Den.fn h.inv (x:=Tree.node a b c d) hdx hyd];exact hy
     ·rintro ⟨r1,hr1,hm⟩
      obtain ⟨r,hr,rfl⟩:=List.mem_map.1 hr1
      exact sub_reach h ht (hd r hr).1 (hroot r hr) (hd r hr).2 hm hdx (by omega)
    rw [hiff];simp
  | note s r j=>
    have:¬Reach S t (roots.map Prod.snd) (i:Int):=fun hr=>by
     obtain ⟨r,hrm,y,hy,hyd⟩:=reach_subL h (fun r hr=>(hd r hr).1) hr
     obtain ⟨a,b,c,d,rfl⟩:=hyd.ge2 h.inv (by omega)
     have:=DenT.fn h.inv (x:= .note s _ j) (y:= .sq a b c d) hdx hyd
     cases this
    simp [keepL,this]) (fun x hx=>by
  obtain ⟨hx1,hx2⟩:=List.mem_filter.1 hx
  cases x with
  | note s r j=>cases hx2
  | sq a b c d=>
    obtain ⟨r,hr,hm⟩:=keepL_sq.1 hx2
    obtain ⟨c0,c1,c2,c3⟩:=(h.ok t ht).closed _ hx1
    have key:∀z,z∈subs a++subs b++subs c++subs d→hasT (A t).have_ z=true→hasT ((A t).have_.filter (keepL (roots.map Prod.fst))) z=true:=fun z hz hzh=>by
     cases z with
     | dead=>rfl
     | alive=>rfl
     | node a' b' c' d'=>
       have hm2:Tree.node a' b' c' d'∈subs r:=subs_trans r hm (List.mem_cons_of_mem _ hz)
       exact decide_eq_true (List.mem_filter.2 ⟨of_decide_eq_true hzh,keepL_sq.2 ⟨r,hr,hm2⟩⟩)
    exact ⟨key a (by simp [subs_self a]) c0,key b (by simp [subs_self b]) c1,key c (by simp [subs_self c]) c2,key d (by simp [subs_self d]) c3⟩)
 exact ⟨this.1,this.2,hle.quota,hle.room⟩
theorem keep_root (h:Rel S A) (ht:t<64) {roots:List Tree} {r:Tree} (hr:r∈roots) (hh:Go.Proofs.YthohnjgnpapnoaaGreatDoor.hasT (A t).have_ r=true):Go.Proofs.YthohnjgnpapnoaaGreatDoor.hasT ((A t).have_.filter (keepL roots)) r=true:=by
 cases r with
 | dead=>rfl
 | alive=>rfl
 | node a b c d=>exact decide_eq_true (List.mem_filter.2 ⟨of_decide_eq_true hh,keepL_sq.2 ⟨_,hr,subs_self _⟩⟩)
end
def cleanRoots (Ws:List WD):List Tree:=Ws.map fun y=>rootT y.P y.k
def cleanA (A:Nat→Abs) (t:Nat) (Ws:List WD):Nat→Abs:=upd A t ⟨(A t).have_.filter (keepL (cleanRoots Ws)),[]⟩
def CleanG (H:HS) (t:Nat) (a:An) (H':HS):Prop:=H'.A=cleanA H.A t H.Ws∧H'.Ws=H.Ws∧H'.ser=H.ser∧H'.K=H.K∧a={An.zero 0 with n:=((H.A t).have_.length:Int)-((H'.A t).have_.length:Int)}
theorem clean_hl {w w':World} {h p t:Nat} {R R':ArR} {S S':ArS} {A:Nat→Abs} {d:Int} {Ws:List WD} {wv kv:Value} {ser:Nat} {K:List KeyD} (H:Hl w h p R S A t d Ws wv ser K kv) (hc:CleanR S t (Ws.map WD.root) S') (ha:ArM w' p R' S') (hs:Step p R R' w w'):
 Hl w' h p R' S' (cleanA A t Ws) t d Ws wv ser K kv∧Oth t S A S' (cleanA A t Ws)∧S.count t-S'.count t=((A t).have_.length:Int)-((cleanA A t Ws t).have_.length:Int):=by
 have hr:=H.ar.rel
 have e1:(Ws.map fun y=>(rootT y.P y.k,y.root)).map Prod.snd=Ws.map WD.root:=by rw [List.map_map];rfl
 have e2:(Ws.map fun y=>(rootT y.P y.k,y.root)).map Prod.fst=cleanRoots Ws:=by rw [List.map_map];rfl
 have hcl:=hr.cleanL H.ht (roots:=Ws.map fun y=>(rootT y.P y.k,y.root)) (fun r hm=>by
  obtain ⟨y,hy,rfl⟩:=List.mem_map.1 hm
  exact (H.good y hy).has) (by rw [e1];exact hc)
 rw [e2] at hcl
 obtain ⟨g1,g2,g3,g4⟩:=hcl
 have hcnt:∀u,u<64→u≠t→S'.count u=S.count u:=fun u hu hne=>by
  rw [g1.count hu,hr.count hu,upd_ne _ _ hne]
 have hadd:∀u,u<64→((S'.added u).length:Int)≤S'.count u:=fun u hu=>by
  obtain ⟨L,_,_,rfl⟩:=hc
  by_cases e:u=t
  ·subst e
   have hz:(({loseL S u L with added:=upd S.added u []}:ArS).added u)= []:=upd_same _ _ _
   rw [hz,g1.count hu]
   simp
  ·rw [hcnt u hu e]
   have hz:(({loseL S t L with added:=upd S.added t []}:ArS).added u)=S.added u:=upd_ne _ _ e
   rw [hz]
   exact H.ar.add u hu
 refine ⟨H.arena ⟨ha,g1,hadd⟩ (hs.toH NoX) fun y hy=>?_,⟨fun u hu=>upd_ne _ _ hu,fun u hu hne x id hx hd=>g2.den.2 hd,g3,g4⟩,by rw [hr.count H.ht,g1.count H.ht];rfl⟩
 have hg:=H.good y hy
 refine ⟨⟨g2.den.2 hg.has.1,?_⟩,hg.k1,hg.k40,hg.supp,hg.ok,hg.rule,hg.named⟩
 unfold cleanA
 rw [upd_same]
 exact keep_root hr H.ht (List.mem_map.2 ⟨y,hy,rfl⟩) hg.has.2
end Go.Proofs.YthohnjgnpapnoaaGreatDoor
