/- hall: try: clean. · hall: try and Do, of every request. · What the cards of the hall use: a witness's world, the table of math/bits read from a row's condition. · arena: Limit. · lifelodgekeep: rooms: a hall in an arena. · keep: Do in a law: what stays, what is answered, in plain words. · The statements' own helpers: cells, alive. · keep: cells of one's own, copied while a hall stands, and given to Do. · keep: a law's own blocks beside a hall at work. -/
import Derived.Test.YthohnjgnpapnoaaGreatDoorR21
import Derived.Test.YthohnjgnpapnoaaGreatDoorR33
import Derived.Deep.LoopGhost
import Derived.Test.YthohnjgnpapnoaaGreatDoorR32
import Derived.Test.YthohnjgnpapnoaaGreatDoorCards
import Derived.Test.YthohnjgnpapnoaaGreatDoorTie
import Derived.Test.YthohnjgnpapnoaaGreatDoorR1
import Derived.WalkKit
import Derived.ProofKit
import Derived.OpenShut
import Derived.ChangeMaps5
import Derived.LaidSub
import Derived.MakeChecks
import Derived.Deep.DeepHandedRow
import Derived.Deep.DeepWitnessRowRef
import Derived.Lib.LaidTab
import Derived.Test.YthohnjgnpapnoaaGreatDoorR5
import Derived.Test.YthohnjgnpapnoaaGreatDoorR16
import Derived.Test.YthohnjgnpapnoaaGreatDoorR11
set_option linter.unusedVariables false
set_option linter.unusedSimpArgs false
namespace Go.Proofs.YthohnjgnpapnoaaGreatDoor
open Go.RowKit
set_option maxRecDepth 100000 in
set_option maxHeartbeats 12800000 in
theorem try_clean (w:World) (h p:Nat) (R:ArR) (H:HS) (t:Nat) (d:Int) (wv kv:Value) (HH:Hl w h p R H.S H.A t d H.Ws wv H.ser H.K kv) (q:SReq) (qA:Option Addr) (qn qcap:Nat) (F:Int→HS→Prop) (hv:q.verb=10):
 Calls Tryz.prog 47 #[.pointer (some ⟨h,0,none⟩),reqV q (.slice qA qn qcap)] w (TryP w h p R H t d wv kv F (CleanG H t)):=by
 obtain ⟨wA,wcap,hwv,hwc1,hwc2⟩:=HH.ws.form
 subst hwv
 have HL:=Lib.hid HH
 have hv1:(q.verb==1)=false:=by simp [hv]
 have hv2:(q.verb==2)=false:=by simp [hv]
 have hv3:(q.verb==3)=false:=by simp [hv]
 have hv5:(q.verb==5)=false:=by simp [hv]
 have hv6:(q.verb==6)=false:=by simp [hv]
 have hv4:(q.verb==4)=false:=by simp [hv]
 have hv7:(q.verb==7)=false:=by simp [hv]
 have hv8:(q.verb==8)=false:=by simp [hv]
 have hv9:(q.verb==9)=false:=by simp [hv]
 have hv10:(q.verb==10)=true:=by simp [hv]
 have hl16:(H.Ws.length:Int)≤16:=by have:=HH.len;omega
 clear HH hv
 unfold reqV
 go_enter Tryz.func47,Tryz.ntmps47
 go_upto_region 1 with fail
 generalize hw0:World.alloc (World.alloc (World.alloc w _) _) _=w0
 obtain ⟨s1,q0,n0,s0,hh0,s00⟩:=slots3 w h q (.slice qA qn qcap) (w0:=w0) hw0
 have HSL:=Lib.hid s1
 have HSH:=Lib.hid s00
 have HN0:=Lib.hid n0
 have HH0:=Lib.hid hh0
 have HL0:=Lib.hid (HL.out.below s1.bel)
 have v0:w0.cell? ⟨w.heap.size+1,0,none⟩=some (.int .i64 q.verb):=q0.cellS rfl
 have c3:w0.cell? ⟨h,3,none⟩=some (.slice wA H.Ws.length wcap):=HL0.out.blk.cellS rfl
 have hc:w0.cell? ⟨w.heap.size,0,none⟩=some (.pointer (some ⟨h,0,none⟩)):=hh0.cellS rfl
 clear hw0 q0 n0 s0 hh0 s00 s1
 go_wp2_with fail
 clear v0 c3 hc
 go_loopw [9,95] (fun rv iv wx=>∃(i:Nat) (v:Value),rv=v∧iv= .int .i64 i∧i≤H.Ws.length∧Sl wx IT 1 v i (intsV ((H.Ws.map WD.root).take i))∧(∀b,sblk v=some b→w0.heap.size≤b)∧Below w0.heap.size w0 wx) (fun _ iv _=>H.Ws.length-(intOf iv).toNat)
 case atStart=>exact ⟨0,_,rfl,rfl,Nat.zero_le _,Sl.nil _ _ _,(fun b hb=>by simp [sblk] at hb),Below.refl _ _⟩
 case round=>
  obtain ⟨i,v,rfl,rfl,hi,hs,hf,hb⟩:=hrel
  have HS:=Lib.hid hs
  have HF:=Lib.hid hf
  have HB:=Lib.hid hb
  have HL1:=Lib.hid (HL0.out.below hb)
  clear hs hf hb
  by_cases hlt:i<H.Ws.length
  ·obtain ⟨x,hx⟩:∃x,H.Ws[i]? =some x:=⟨_,List.getElem?_eq_getElem (by omega)⟩
   have HX:=Lib.hid hx
   obtain ⟨b,off,cap,hv,_,_,d0,d1,d2,d3⟩:=ws_cells HL1.out.ws hx
   injection hv with hv _ hcap
   subst hv
   subst hcap
   have hib:(i:Int)<(H.Ws.length:Int):=by omega
   have hwi:IntKind.i64.wrap ((i:Int)+1)=(i:Int)+1:=by rw [IntKind.wrap_i64];omega
   have hil:i<17:=by omega
   have HLT:=Lib.hid hlt
   have HTK:Hid ((H.Ws.map WD.root).take (i+1)=(H.Ws.map WD.root).take i++ [x.root]):=by
    show _=_
    rw [List.take_add_one,List.getElem?_map,hx];rfl
   have HRD:Hid (Rd ((wr.alloc (.cells #[.string (str x.name),.int .i64 x.root,.int .i64 x.b,.int .i64 x.l] 137)).alloc (.cells #[.int .i64 x.root] IT)) (wr.heap.size+1+1) 1 (.slice (some ⟨wr.heap.size+1,0,none⟩) 1 1) 1 (intsV [x.root])):=by
    have h1:=Rd.fresh (wr.alloc (.cells #[.string (str x.name),.int .i64 x.root,.int .i64 x.b,.int .i64 x.l] 137)) IT #[.int .i64 x.root] 1 1 rfl (by decide)
    rw [World.size_alloc] at h1
    exact h1
   clear hx hi hlt
   go_wp2_with (at_builtin;go_loud (refine wpList_append_sl _ rfl (.tmp 99) (.tmp 102) 24 rfl IT (.int .i64 0) 1 8 Tryz.underlying24 Tryz.infoInt rfl (by decide) rfl (by exact (HS.out.alloc _).alloc _) rfl (by exact HRD.out) (intsV_one _) (by omega) (by unfold maxLen;omega) ?_);intro v5 w5 hs5 hm5 hd5)
   obtain ⟨f1,f2⟩:=fresh_of (w:=w0) (v:=u9) (by exact hm5) (by exact hd5) ((HB.out.alloc HB.out.size _).alloc (by have:=HB.out.size;rw [World.size_alloc];omega) _) HF.out
   have HS5:Hid (Sl w5 IT 1 v5 (i+1) (intsV ((H.Ws.map WD.root).take (i+1)))):=by
    rw [HTK.out]
    show Sl _ _ _ _ _ (intsV _)
    unfold intsV
    rw [List.map_append];exact hs5
   have HF1:=Lib.hid f1
   have HF2:=Lib.hid f2
   clear hs5 hm5 hd5 f1 f2
   refine ⟨⟨i+1,v5,rfl,by go_num,HLT.out,HS5.out,HF1.out,HF2.out⟩,?_⟩
   simp [intOf];have:=HLT.out;omega
  ·obtain rfl:i=H.Ws.length:=by omega
   have HTK:Hid ((H.Ws.map WD.root).take H.Ws.length=H.Ws.map WD.root):=List.take_of_length_le (by rw [List.length_map];exact Nat.le_refl _)
   rw [HTK.out] at HS
   have HCL:=Lib.hid (fun (W:World) (hA:ArM W p R H.S) (hv:Sl W IT 1 u9 H.Ws.length (intsV (H.Ws.map WD.root)))=>clean_any W p R H.S hA HL.out.ar.rel.inv t HL.out.ht u9 H.Ws.length (H.Ws.map WD.root) hv (by omega) (fun x hx=>by
    obtain ⟨y,hy,rfl⟩:=List.mem_map.1 hx
    exact (HL.out.good y hy).has.1.i64 HL.out.ar.rel.inv))
   have HS1:Hid (HStep h p R (.slice wA H.Ws.length wcap) kv R (.slice wA H.Ws.length wcap) kv w0 wr):=HStep.arena (StepH.of_below HB.out)
   have HN1:=Lib.hid (HSL.out.keep HL.out HS1.out HN0.out)
   have HH1:=Lib.hid (HSH.out.keep HL.out HS1.out HH0.out)
   have c0:wr.cell? ⟨h,0,none⟩=some (.pointer (some ⟨p,0,none⟩)):=HL1.out.blk.cellS rfl
   have c1:wr.cell? ⟨h,1,none⟩=some (.int .i64 t):=HL1.out.blk.cellS rfl
   have hc:wr.cell? ⟨w.heap.size,0,none⟩=some (.pointer (some ⟨h,0,none⟩)):=HH1.out.cellS rfl
   have NEC:Hid (w.heap.size≠w.heap.size+1+1):=by show _≠_;omega
   have NEH:Hid (h≠w.heap.size+1+1):=fun e=>by have:=HL.out.blk.lt;omega
   go_wp2_with fail
   go_region_held3 (fun w'=>w'.cell? ⟨w.heap.size,0,none⟩=some (.pointer (some ⟨h,0,none⟩))∧w'.cell? ⟨h,0,none⟩=some (.pointer (some ⟨p,0,none⟩))∧w'.cell? ⟨h,1,none⟩=some (.int .i64 t))
    (first | (with_reducible exact ⟨hc,c0,c1⟩) | (with_reducible exact ⟨e2,e0,e1⟩) | (with_reducible exact ⟨cell_far NEC.out (cell_far NEC.out (cell_far NEC.out (cell_far NEC.out (cell_far NEC.out (cell_far NEC.out (cell_far NEC.out (cell_far NEC.out (cell_far NEC.out (cell_far NEC.out (e2)))))))))),cell_far NEH.out (cell_far NEH.out (cell_far NEH.out (cell_far NEH.out (cell_far NEH.out (cell_far NEH.out (cell_far NEH.out (cell_far NEH.out (cell_far NEH.out (cell_far NEH.out (e0)))))))))),cell_far NEH.out (cell_far NEH.out (cell_far NEH.out (cell_far NEH.out (cell_far NEH.out (cell_far NEH.out (cell_far NEH.out (cell_far NEH.out (cell_far NEH.out (cell_far NEH.out (e1))))))))))⟩) | go_keep)
    ((go_at_call 79;refine (HCL.out _ (by exact HL1.out.ar.arm.drew) (by exact HS.out.below (Below.refl _ _).drew)).mono ?_;rintro e w3 ⟨S',R',rfl,hcr,ha3,hs3⟩;have hst3:=(Step.refl p R wr).drew.trans hs3;have hcl:=clean_hl HL1.out hcr ha3 hst3;have HCLN:=Lib.hid hcl;have HST3:=Lib.hid (HS1.out.trans hst3.hst);have hn3:=HSL.out.keep HL.out HST3.out HN0.out;have HN3:=Lib.hid hn3;have hh3:=HSH.out.keep HL.out HST3.out HH0.out;clear hcl hcr ha3 hs3 hst3;have e0:w3.cell? ⟨h,0,none⟩=some (.pointer (some ⟨p,0,none⟩)):=HCLN.out.1.blk.cellS rfl;have e1:w3.cell? ⟨h,1,none⟩=some (.int .i64 t):=HCLN.out.1.blk.cellS rfl;have e2:w3.cell? ⟨w.heap.size,0,none⟩=some (.pointer (some ⟨h,0,none⟩)):=hh3.cellS rfl;clear hh3;have zb:=hn3;have z0:w3.cell? ⟨w.heap.size+1+1,0,none⟩=some (.int .i64 0):=zb.cellS rfl;have zf0:=zb.frozen 0;have z1:w3.cell? ⟨w.heap.size+1+1,1,none⟩=some (.int .i64 0):=zb.cellS rfl;have zf1:=zb.frozen 1;have z2:w3.cell? ⟨w.heap.size+1+1,2,none⟩=some (.int .i64 0):=zb.cellS rfl;have zf2:=zb.frozen 2;have z3:w3.cell? ⟨w.heap.size+1+1,3,none⟩=some (.int .i64 0):=zb.cellS rfl;have zf3:=zb.frozen 3;have z4:w3.cell? ⟨w.heap.size+1+1,4,none⟩=some (.int .i64 0):=zb.cellS rfl;have zf4:=zb.frozen 4;have z5:w3.cell? ⟨w.heap.size+1+1,5,none⟩=some (.int .i64 0):=zb.cellS rfl;have zf5:=zb.frozen 5;have z6:w3.cell? ⟨w.heap.size+1+1,6,none⟩=some (.int .i64 0):=zb.cellS rfl;have zf6:=zb.frozen 6;have z7:w3.cell? ⟨w.heap.size+1+1,7,none⟩=some (.int .i64 0):=zb.cellS rfl;have zf7:=zb.frozen 7;have z8:w3.cell? ⟨w.heap.size+1+1,8,none⟩=some (.string ⟨#[]⟩):=zb.cellS rfl;have zf8:=zb.frozen 8;have z9:w3.cell? ⟨w.heap.size+1+1,9,none⟩=some (.slice none 0 0):=zb.cellS rfl;have zf9:=zb.frozen 9;clear hn3))
   all_goals (
    have HBE:=Lib.hid HB.out
    clear hc c0 c1 e0 e1 e2 zb z0 z1 z2 z3 z4 z5 z6 z7 z8 z9 zf0 zf1 zf2 zf3 zf4 zf5 zf6 zf7 zf8 zf9
    go_wp2_with fail
    have hbm:Blk ((((((((((w3.setCell ⟨w.heap.size+1+1,0,none⟩ (.int .i64 0)).setCell ⟨w.heap.size+1+1,1,none⟩ (.int .i64 (H.S.count t-S'.count t))).setCell ⟨w.heap.size+1+1,2,none⟩ (.int .i64 0)).setCell ⟨w.heap.size+1+1,3,none⟩ (.int .i64 0)).setCell ⟨w.heap.size+1+1,4,none⟩ (.int .i64 0)).setCell ⟨w.heap.size+1+1,5,none⟩ (.int .i64 0)).setCell ⟨w.heap.size+1+1,6,none⟩ (.int .i64 0)).setCell ⟨w.heap.size+1+1,7,none⟩ (.int .i64 0)).setCell ⟨w.heap.size+1+1,8,none⟩ (.string ⟨#[]⟩)).setCell ⟨w.heap.size+1+1,9,none⟩ (.slice none 0 0)) (w.heap.size+1+1) 57 (anC {An.zero 0 with n:=H.S.count t-S'.count t} (.slice none 0 0))∧Mod (fun b=>b=w.heap.size+1+1) w3 ((((((((((w3.setCell ⟨w.heap.size+1+1,0,none⟩ (.int .i64 0)).setCell ⟨w.heap.size+1+1,1,none⟩ (.int .i64 (H.S.count t-S'.count t))).setCell ⟨w.heap.size+1+1,2,none⟩ (.int .i64 0)).setCell ⟨w.heap.size+1+1,3,none⟩ (.int .i64 0)).setCell ⟨w.heap.size+1+1,4,none⟩ (.int .i64 0)).setCell ⟨w.heap.size+1+1,5,none⟩ (.int .i64 0)).setCell ⟨w.heap.size+1+1,6,none⟩ (.int .i64 0)).setCell ⟨w.heap.size+1+1,7,none⟩ (.int .i64 0)).setCell ⟨w.heap.size+1+1,8,none⟩ (.string ⟨#[]⟩)).setCell ⟨w.heap.size+1+1,9,none⟩ (.slice none 0 0)):=an_stored HN3.out {An.zero 0 with n:=H.S.count t-S'.count t} (.slice none 0 0)
    obtain ⟨hbk,hmd⟩:=hbm
    generalize hWW:World.setCell _ _ _=WW at hbk hmd ⊢
    have k0:WW.cell? ⟨w.heap.size+1+1,0,none⟩=some (.int .i64 0):=hbk.cellS rfl
    have k1:WW.cell? ⟨w.heap.size+1+1,1,none⟩=some (.int .i64 (H.S.count t-S'.count t)):=hbk.cellS rfl
    have k2:WW.cell? ⟨w.heap.size+1+1,2,none⟩=some (.int .i64 0):=hbk.cellS rfl
    have k3:WW.cell? ⟨w.heap.size+1+1,3,none⟩=some (.int .i64 0):=hbk.cellS rfl
    have k4:WW.cell? ⟨w.heap.size+1+1,4,none⟩=some (.int .i64 0):=hbk.cellS rfl
    have k5:WW.cell? ⟨w.heap.size+1+1,5,none⟩=some (.int .i64 0):=hbk.cellS rfl
    have k6:WW.cell? ⟨w.heap.size+1+1,6,none⟩=some (.int .i64 0):=hbk.cellS rfl
    have k7:WW.cell? ⟨w.heap.size+1+1,7,none⟩=some (.int .i64 0):=hbk.cellS rfl
    have k8:WW.cell? ⟨w.heap.size+1+1,8,none⟩=some (.string ⟨#[]⟩):=hbk.cellS rfl
    have k9:WW.cell? ⟨w.heap.size+1+1,9,none⟩=some (.slice none 0 0):=hbk.cellS rfl
    clear hWW hbk
    refine bodyPost_ret (v:= .tuple #[ansV {An.zero 0 with n:=H.S.count t-S'.count t} (.slice none 0 0),.int .i64 0]) (by simp [results,Tryz.results47,go_sem,ansV,An.zero,k0,k1,k2,k3,k4,k5,k6,k7,k8,k9,str]) rfl ?_
    skip
    exact try_ok (H':=⟨S',cleanA H.A t H.Ws,H.Ws,H.ser,H.K⟩) HSL.out HL.out HST3.out HCLN.out.1 HCLN.out.2.1 rfl ⟨rfl,rfl,rfl,rfl,by rw [HCLN.out.2.2]⟩ (rd_none _) new_none hmd)
end Go.Proofs.YthohnjgnpapnoaaGreatDoor
namespace Go.Proofs.YthohnjgnpapnoaaGreatDoor
open Go.RowKit
def noVerb (v:Int):Prop:=v≠1∧v≠2∧v≠3∧v≠4∧v≠5∧v≠6∧v≠7∧v≠8∧v≠9∧v≠10
inductive TryF (H:HS) (q:SReq) (t:Nat) (x:Int) (H':HS):Prop where
 | new:q.verb=1→AddF H q.name q.b q.l t NewC x H'→TryF H q t x H'
 | set:q.verb=2→SetF H q t x H'→TryF H q t x H'
 | read:q.verb=3∨q.verb=5∨q.verb=6→ReadF H q x H'→TryF H q t x H'
 | step:q.verb=4→StepF H q t x H'→TryF H q t x H'
 | drop:q.verb=7→DropF H q.name x H'→TryF H q t x H'
 | copy:q.verb=8→CopyF H q t x H'→TryF H q t x H'
 | lease:q.verb=9→LeaseF H q x H'→TryF H q t x H'
 | none:noVerb q.verb→ElseF H x H'→TryF H q t x H'
inductive TryG (H:HS) (q:SReq) (t:Nat) (d:Int) (a:An) (H':HS):Prop where
 | new:q.verb=1→AddG H q.name (setOfL []) 1 q.b q.l t NewC a H'→TryG H q t d a H'
 | set:q.verb=2→SetG H q t a H'→TryG H q t d a H'
 | read:q.verb=3∨q.verb=5∨q.verb=6→ReadG H q a H'→TryG H q t d a H'
 | step:q.verb=4→StepG H q t a H'→TryG H q t d a H'
 | drop:q.verb=7→DropG H q.name a H'→TryG H q t d a H'
 | copy:q.verb=8→CopyG H q t a H'→TryG H q t d a H'
 | lease:q.verb=9→LeaseG H q d a H'→TryG H q t d a H'
 | clean:q.verb=10→CleanG H t a H'→TryG H q t d a H'
theorem TryP.mono {w w':World} {h p t:Nat} {R:ArR} {H:HS} {d:Int} {wv kv:Value} {F F':Int→HS→Prop} {G G':An→HS→Prop} {e:Ending} (hp:TryP w h p R H t d wv kv F G e w') (hF:∀x H',F x H'→F' x H') (hG:∀a H',G a H'→G' a H'):TryP w h p R H t d wv kv F' G' e w':=by
 obtain ⟨a,v,x,H',wv',kv',R',g1,g2,g3,g4,g5,g6,g7⟩:=hp
 refine ⟨a,v,x,H',wv',kv',R',g1,g2,g3,g4,g5,fun hn=>?_,fun he=>?_⟩
 ·obtain ⟨m1,m2,m3,m4,m5,m6,m7⟩:=g6 hn
  exact ⟨m1,m2,m3,m4,m5,m6,hF _ _ m7⟩
 ·obtain ⟨m1,m2,m3⟩:=g7 he
  exact ⟨m1,hG _ _ m2,m3⟩
structure ReqOk (w:World) (q:SReq) (qA:Option Addr) (qn qcap:Nat):Prop where
 name:q.name.length≤4294967296
 other:q.other.length≤4294967296
 cells:Rd w w.heap.size 2 (.slice qA qn qcap) qn (flat q.cells)
 len:qn≤maxLen
 b: -9223372036854775808≤q.b∧q.b≤9223372036854775807
def tabOk (w:World):Prop:=w.cell? ⟨4,15,none⟩=some (.int .u8 4)
theorem try_any (w:World) (h p:Nat) (R:ArR) (H:HS) (t:Nat) (d:Int) (wv kv:Value) (HH:Hl w h p R H.S H.A t d H.Ws wv H.ser H.K kv) (q:SReq) (qA:Option Addr) (qn qcap:Nat) (hq:ReqOk w q qA qn qcap) (hser:q.verb=9→H.ser<100) (g:q.verb=9→tabOk w):
 Calls Tryz.prog 47 #[.pointer (some ⟨h,0,none⟩),reqV q (.slice qA qn qcap)] w (TryP w h p R H t d wv kv (TryF H q t) (TryG H q t d)):=by
 by_cases h1:q.verb=1
 ·exact (try_new w h p R H t d wv kv HH q qA qn qcap hq.name hq.b h1).mono fun _ _ k=>k.mono (fun _ _=> .new h1) fun _ _=> .new h1
 by_cases h2:q.verb=2
 ·exact (try_set w h p R H t d wv kv HH q qA qn qcap hq.name hq.cells hq.len h2).mono fun _ _ k=>k.mono (fun _ _=> .set h2) fun _ _=> .set h2
 by_cases h3:q.verb=3
 ·exact (try_get w h p R H t d wv kv HH q qA qn qcap hq.name h3).mono fun _ _ k=>k.mono (fun _ _=> .read (.inl h3)) fun _ _=> .read (.inl h3)
 by_cases h4:q.verb=4
 ·exact (try_step w h p R H t d wv kv HH q qA qn qcap hq.name h4).mono fun _ _ k=>k.mono (fun _ _=> .step h4) fun _ _=> .step h4
 by_cases h5:q.verb=5
 ·exact (try_count w h p R H t d wv kv HH q qA qn qcap hq.name h5).mono fun _ _ k=>k.mono (fun _ _=> .read (.inr (.inl h5))) fun _ _=> .read (.inr (.inl h5))
 by_cases h6:q.verb=6
 ·exact (try_box w h p R H t d wv kv HH q qA qn qcap hq.name h6).mono fun _ _ k=>k.mono (fun _ _=> .read (.inr (.inr h6))) fun _ _=> .read (.inr (.inr h6))
 by_cases h7:q.verb=7
 ·exact (try_drop w h p R H t d wv kv HH q qA qn qcap h7).mono fun _ _ k=>k.mono (fun _ _=> .drop h7) fun _ _=> .drop h7
 by_cases h8:q.verb=8
 ·exact (try_copy w h p R H t d wv kv HH q qA qn qcap hq.name hq.other h8).mono fun _ _ k=>k.mono (fun _ _=> .copy h8) fun _ _=> .copy h8
 by_cases h9:q.verb=9
 ·exact (try_lease w h p R H t d wv kv HH q qA qn qcap hq.name (hser h9) (g h9) h9).mono fun _ _ k=>k.mono (fun _ _=> .lease h9) fun _ _=> .lease h9
 by_cases h10:q.verb=10
 ·exact (try_clean w h p R H t d wv kv HH q qA qn qcap (fun _ _=>False) h10).mono fun _ _ k=>k.mono (fun _ _ hf=>hf.elim) fun _ _=> .clean h10
 ·exact (try_else w h p R H t d wv kv HH q qA qn qcap ⟨h1,h2,h3,h4,h5,h6,h7,h8,h9,h10⟩).mono fun _ _ k=>k.mono (fun _ _=> .none ⟨h1,h2,h3,h4,h5,h6,h7,h8,h9,h10⟩) fun _ _ hf=>hf.elim
structure Young (B h p:Nat) (R:ArR) (wv:Value):Prop where
 own:∀b,Own p R b→B≤b
 h:B≤h
 wv:∀b,sblk wv=some b→B≤b
section
variable {w w' : World} {B h p : Nat} {R R' : ArR} {wv kv wv' kv' : Value}
theorem Young.step (hy:Young B h p R wv) (hs:HStep h p R wv kv R' wv' kv' w w') (hB:B≤w.heap.size):Young B h p R' wv':=
 ⟨fun b hb=>(hs.own b hb).elim (hy.own b) fun k=>by omega,hy.h,fun b hb=>(hs.nw b hb).elim (hy.wv b) fun k=>by omega⟩
theorem Young.below (hy:Young B h p R wv) (hs:HStep h p R wv kv R' wv' kv' w w') (hB:B≤w.heap.size):Below B w w':=
 hs.mod.below hB fun b hb ho=>by
  rcases ho with ho | ho | ho
  ·have:=hy.own b ho;omega
  ·have:=hy.h;omega
  ·have:=hy.wv b ho;omega
end
theorem ReqOk.step {w w':World} {h p:Nat} {R R':ArR} {wv kv wv' kv':Value} {q:SReq} {qA:Option Addr} {qn qcap:Nat} (hq:ReqOk w q qA qn qcap) (hs:HStep h p R wv kv R' wv' kv' w w') (hn:∀b,sblk (.slice qA qn qcap)=some b→¬Own p R b∧b≠h∧sblk wv≠some b):ReqOk w' q qA qn qcap:=
 ⟨hq.name,hq.other,hq.cells.stepX hs.mod fun b hb _ ho=>by
  obtain ⟨h1,h2,h3⟩:=hn b hb
  rcases ho with ho | ho | ho
  ·exact h1 ho
  ·exact h2 ho
  ·exact h3 ho,hq.len,hq.b⟩
theorem do_all (w:World) (h p:Nat) (R:ArR) (H:HS) (t:Nat) (d:Int) (wv kv:Value) (HH:Hl w h p R H.S H.A t d H.Ws wv H.ser H.K kv) (q:SReq) (qA:Option Addr) (qn qcap:Nat) (hq:ReqOk w q qA qn qcap) (hn:∀b,sblk (.slice qA qn qcap)=some b→¬Own p R b∧b≠h∧sblk wv≠some b) (hser:q.verb=9→H.ser<100) (B:Nat) (hy:Young B h p R wv) (hB:B≤w.heap.size) (hg:q.verb=9→4<B∧tabOk w):
 Calls Tryz.prog 25 #[.pointer (some ⟨h,0,none⟩),reqV q (.slice qA qn qcap)] w (DoP w h p R H t d wv kv (TryF (markH H t) q t) (TryG (markH H t) q t d)):=
 do_any w h p R H t d wv kv HH q (.slice qA qn qcap) _ _ fun w1 R1 h1 hs1=>try_any w1 h p R1 (markH H t) t d wv kv h1 q qA qn qcap (hq.step hs1 hn) hser fun h9=>by
  obtain ⟨g1,g2⟩:=hg h9
  exact ((hy.below hs1 hB).cell (p:=⟨4,15,none⟩) g1).trans g2
end Go.Proofs.YthohnjgnpapnoaaGreatDoor
namespace Go.Proofs.YthohnjgnpapnoaaGreatDoor
open Go.ChangeShapes Go.WideShapes Go.ChangeAt Go.RowKit Go.ChangeMaps
theorem ownD:ownKnob Tryz.prog.godebug=none:=by kernel_rfl
theorem laidOutD:laidOutB Tryz.prog=true:=by kernel_rfl
def tab64:List Int:=[0,1,56,2,57,49,28,3,61,58,42,50,38,29,17,4,62,47,59,36,45,43,51,22,53,39,33,30,24,18,12,5,63,55,48,27,60,41,37,16,46,35,44,21,52,32,23,11,54,26,40,15,34,20,31,10,25,14,19,9,13,8,7,6]
theorem tab64_data:(Rows.laid_math_bits_deBruijn64tab:DataW Unit)=Lib.tabData .u8 tab64:=by rfl
abbrev laidKeys:List (String×DataW Unit):=[("math/bits.deBruijn32tab",Rows.laid_math_bits_deBruijn32tab),("math/bits.deBruijn64tab",Rows.laid_math_bits_deBruijn64tab),("internal/strconv.uint64pow10",Rows.laid_internal_strconv_uint64pow10)]
theorem tab_of_laid {W:World} (h:laidMetH Tryz.prog laidKeys W):W.cell? ⟨4,15,none⟩=some (.int .u8 4):=by
 rw [Go.MakeChecks.laidMetH_plain Tryz.prog laidKeys W (by kernel_rfl)] at h
 have h2:=h.filter (fun x=>x.1== "math/bits.deBruijn64tab")
 have e:laidKeys.filter (fun x=>x.1== "math/bits.deBruijn64tab")= [("math/bits.deBruijn64tab",Rows.laid_math_bits_deBruijn64tab)]:=by rfl
 rw [e,tab64_data] at h2
 have ht:=Lib.tabIs_of_head (P:=Tryz.prog) (g:=4) (show Tryz.prog.globalNamed "math/bits.deBruijn64tab" =some 4 by kernel_rfl) (show (Tryz.prog.globals[4]?).map (·.type)=some 309 by kernel_rfl) Tryz.underlying309 Tryz.underlying5 (by kernel_rfl) (by kernel_rfl) h2
 exact ht.cell (show Tryz.prog.globalNamed "math/bits.deBruijn64tab" =some 4 by kernel_rfl) 15 (by decide)
theorem hallG_of_laid {W:World} (h:laidMetH Tryz.prog laidKeys W):4<W.heap.size∧tabOk W:=⟨World.block_lt_of_cell? W _ (tab_of_laid h),tab_of_laid h⟩
def flat0:DataW Unit→List Value
 | .lit (.int k z)=>[.int k z]
 | _=>[]
def flat1:DataW Unit→Array Value
 | .agg l=>(l.flatMap flat0).toArray
 | _=>#[]
def putCells (cs:Array Value):Obj→Obj
 | .cells _ t frozen=> .cells cs t frozen
 | o=>o
noncomputable def keysWorld (os:Os):World:=
 {World.holding Tryz.prog os ⟨#[],#[],[]⟩ with heap:=(((World.holding Tryz.prog os ⟨#[],#[],[]⟩).heap.modify 3 (putCells (flat1 Rows.laid_math_bits_deBruijn32tab))).modify 4 (putCells (flat1 Rows.laid_math_bits_deBruijn64tab))).modify 0 (putCells (flat1 Rows.laid_internal_strconv_uint64pow10))}
end Go.Proofs.YthohnjgnpapnoaaGreatDoor
namespace Go.Proofs.YthohnjgnpapnoaaGreatDoor
open Go.RowKit
set_option maxRecDepth 100000 in
theorem limit_any (w:World) (p:Nat) (R:ArR) (S:ArS) (h:ArM w p R S) (t:Nat) (ht:t<64) (n:Int) (hn:0≤n∧n≤S.room):
 Calls Tryz.prog 43 #[.pointer (some ⟨p,0,none⟩),.int .i64 t,.int .i64 n] w fun e w'=>e= .returned (.int .i64 0)∧ArM w' p R {S with quota:=upd S.quota t n}∧Step p R R w w':=by
 have c0:=h.cRoom
 have c1:=h.cQuota ht
 have f1:=h.f (68+t)
 have k4:(t:Int)<64:=by omega
 obtain ⟨hn1,hn2⟩:=hn
 have H:=Lib.hid h
 clear h
 go_enter Tryz.func43,Tryz.ntmps43
 go_wp2_with fail
 (with_reducible refine (tenant_any w t).mono ?_)
 rintro e wq ⟨rfl,rfl⟩
 rw [decide_eq_true (show 0≤(t:Int)∧(t:Int)<64 by omega)]
 go_wp2_with fail
 go_ret
 exact ⟨rfl,H.out.put (arCells_quota R S ht n) rfl rfl rfl rfl rfl,Step.set H.out (q:=⟨p,68+t,none⟩) (.inl rfl) _⟩
end Go.Proofs.YthohnjgnpapnoaaGreatDoor
namespace Go.Proofs.YthohnjgnpapnoaaGreatDoor
open Go.RowKit
theorem Inv.limitQ {S:ArS} (h:Inv S) (q:Nat→Int):Inv {S with quota:=q}:=⟨h.room,h.zero,h.part,h.full,h.cnt,h.idx,h.own,h.keys,h.nodup,h.free,h.count,h.added⟩
theorem Rel.limitQ {S:ArS} {A:Nat→Abs} (h:Rel S A) (q:Nat→Int):Rel {S with quota:=q} A∧Twin S {S with quota:=q}:=by
 have tw:Twin S {S with quota:=q}:=⟨rfl,fun j e he=>⟨e,he,rfl,rfl,rfl⟩,fun j e he=>⟨e,he,rfl,rfl,rfl⟩⟩
 refine ⟨⟨h.inv.limitQ q,h.live,fun i e h1 h2=>?_,fun t ht x=>?_,fun t ht id hid=>?_,fun t ht x hx=>?_,h.ok⟩,tw⟩
 ·obtain ⟨x,hx⟩:=h.good i e h1 h2
  exact ⟨x,tw.denT.2 hx⟩
 ·rw [h.own t ht]
  constructor
  ·rintro ⟨i,e,g1,g2,g3⟩;exact ⟨i,e,g1,g2,tw.denT.2 g3⟩
  ·rintro ⟨i,e,g1,g2,g3⟩;exact ⟨i,e,g1,g2,tw.denT.1 g3⟩
 ·obtain ⟨i,x,g1,g2,g3⟩:=h.add1 t ht id hid
  exact ⟨i,x,g1,tw.denT.2 g2,g3⟩
 ·obtain ⟨i,g1,g2⟩:=h.add2 t ht x hx
  exact ⟨i,g1,tw.denT.2 g2⟩
set_option maxRecDepth 100000 in
theorem hallNew_any (w:World) (p t:Nat) (ht:t<64) (d:Int):Calls Tryz.prog 44 #[.pointer (some ⟨p,0,none⟩),.int .i64 t,.int .i64 d] w fun e w'=>e= .returned (.tuple #[.pointer (some ⟨w.heap.size,0,none⟩),.int .i64 0])∧w'=w.alloc (.cells (hlC p t d (.slice none 0 0) 0 (.slice none 0 0)) 104):=by
 have h1:(t:Int)<64:=by omega
 have h0:(0:Int)≤(t:Int):=by omega
 unfold hlC
 go_enter Tryz.func44,Tryz.ntmps44
 go_wp2_with fail
 go_returns
 exact ⟨rfl,rfl⟩
theorem hall_new {w:World} {p t:Nat} {R:ArR} {S:ArS} {A:Nat→Abs} (ha:Ar w p R S A) (ht:t<64) (d:Int):Hl (w.alloc (.cells (hlC p t d (.slice none 0 0) 0 (.slice none 0 0)) 104)) w.heap.size p R S A t d [] (.slice none 0 0) 0 [] (.slice none 0 0):=
 ⟨ha.below ((Below.refl _ _).alloc (Nat.le_refl _) _),ht,Blk.new _ _ _,fun ho=>Nat.lt_irrefl _ (ha.arm.own_lt ho),Sl.nil _ _ _,(fun b hb=>by simp [sblk] at hb),(Sl.nil _ 9 3).rd,(fun b hb=>by simp [sblk] at hb),(fun x hx=>by cases hx),List.nodup_nil,by decide,by decide⟩
def RoomsPost (w:World) (q:Int) (e:Ending) (w':World):Prop:=
 ∃(p h:Nat) (R:ArR) (S:ArS) (A:Nat→Abs),e= .returned (.tuple #[.pointer (some ⟨p,0,none⟩),.pointer (some ⟨h,0,none⟩),.bool true])∧Hl w' h p R S A 9 77 [] (.slice none 0 0) 0 [] (.slice none 0 0)∧A 9=⟨[],[]⟩∧S.room=200000∧S.quota 9=q∧Within S [firstT]∧Young w.heap.size h p R (.slice none 0 0)∧Below w.heap.size w w'
set_option maxRecDepth 100000 in
set_option maxHeartbeats 3200000 in
theorem rooms_any (w:World) (q:Int) (hq:0≤q∧q≤200000):Calls Tryz.prog 22 #[.int .i64 q] w (RoomsPost w q):=by
 have HQ:=Lib.hid hq
 clear hq
 go_enter Tryz.func22,Tryz.ntmps22
 go_wp2_with fail
 (with_reducible refine (begunQ_any w).mono ?_)
 rintro e w1 ⟨p,R,S,A,rfl,ha,hz,hr,hqq,hw,hb,ho⟩
 have HA:=Lib.hid ha
 have HZ:=Lib.hid (And.intro (hz 9 (by decide)) (And.intro hr hw))
 have HB:=Lib.hid hb
 have HO:=Lib.hid ho
 have HLM:Hid (Calls Tryz.prog 43 #[.pointer (some ⟨p,0,none⟩),.int .i64 9,.int .i64 q] w1 fun e w'=>e= .returned (.int .i64 0)∧ArM w' p R {S with quota:=upd S.quota 9 q}∧Step p R R w1 w'):=limit_any w1 p R S ha.arm 9 (by decide) q (by rw [hr];exact HQ.out)
 clear ha hz hr hqq hw hb ho
 go_wp2_with fail
 (with_reducible refine HLM.out.mono ?_)
 rintro e w2 ⟨rfl,ha2,hs2⟩
 have HA2:=Lib.hid ha2
 have HS2:=Lib.hid hs2
 clear ha2 hs2 HLM
 have HNW:Hid (Calls Tryz.prog 44 #[.pointer (some ⟨p,0,none⟩),.int .i64 9,.int .i64 77] w2 fun e w'=>e= .returned (.tuple #[.pointer (some ⟨w2.heap.size,0,none⟩),.int .i64 0])∧w'=w2.alloc (.cells (hlC p 9 77 (.slice none 0 0) 0 (.slice none 0 0)) 104)):=hallNew_any w2 p 9 (by decide) 77
 go_wp2_with fail
 (with_reducible refine HNW.out.mono ?_)
 rintro e w3 ⟨rfl,hw3⟩
 have HW3:=Lib.hid hw3
 clear hw3 HNW
 go_wp2_with fail
 go_returns
 have hrl:=HA.out.rel.limitQ (upd S.quota 9 q)
 have har:Ar w2 p R {S with quota:=upd S.quota 9 q} A:=⟨HA2.out,hrl.1,fun u hu=>HA.out.add u hu⟩
 have hb2:Below w.heap.size w w2:=HB.out.trans (HS2.out.mod.below HB.out.size fun b hb ho=>absurd (HO.out b ho) (by omega))
 have hb3:Below w.heap.size w w3:=by rw [HW3.out];exact hb2.alloc hb2.size _
 exact ⟨p,w2.heap.size,R,{S with quota:=upd S.quota 9 q},A,rfl,by rw [HW3.out];exact hall_new har (by decide) 77,HZ.out.1,HZ.out.2.1,(by show upd S.quota 9 q 9=q;exact upd_same _ _ _),fun i x hd=>HZ.out.2.2 i x (hrl.2.denT.1 hd),⟨HO.out,hb2.size,fun b hb=>by simp [sblk] at hb⟩,hb3⟩
end Go.Proofs.YthohnjgnpapnoaaGreatDoor
namespace Go.Proofs.YthohnjgnpapnoaaGreatDoor
open Go.RowKit
structure Ha (W:World) (h p t:Nat) (d:Int) (R:ArR) (H:HS) (wv kv:Value) (w:World):Prop where
 hl:Hl w h p R H.S H.A t d H.Ws wv H.ser H.K kv
 yg:Young W.heap.size h p R wv
 bel:Below W.heap.size W w
structure DoR (H:HS) (q:SReq) (t:Nat) (d:Int) (a:An) (H':HS):Prop where
 no:a.code≠0→a=An.zero a.code∧(∀x,x∈(H'.A t).have_↔x∈(H.A t).have_)∧H'.Ws=H.Ws∧H'.ser=H.ser∧H'.K=H.K∧∃H1,TryF (markH H t) q t a.code H1
 yes:a.code=0→TryG (markH H t) q t d a H'
 oth:Oth t H.S H.A H'.S H'.A
def DoH (W:World) (h p t:Nat) (d:Int) (R:ArR) (H:HS) (wv kv:Value) (q:SReq) (w:World) (e:Ending) (w':World):Prop:=
 ∃(a:An) (vA:Option Addr) (vn vcap:Nat) (H':HS) (wv' kv':Value) (R':ArR),e= .returned (ansV a (.slice vA vn vcap))∧DoR H q t d a H'∧Ha W h p t d R' H' wv' kv' w'∧HStep h p R wv kv R' wv' kv' w w'∧
  Rd w' w'.heap.size 2 (.slice vA vn vcap) a.cells.length (flat a.cells)∧(∀b,sblk (.slice vA vn vcap)=some b→w.heap.size≤b∧¬Own p R' b∧b≠h∧sblk wv'≠some b)
section
variable {W w w' : World} {h p t : Nat} {d : Int} {R : ArR} {H : HS} {wv kv : Value}
theorem Ha.below (hh:Ha W h p t d R H wv kv w) (hb:Below w.heap.size w w'):Ha W h p t d R H wv kv w':=
 ⟨hh.hl.below hb,hh.yg,hh.bel.trans (hb.mono hh.bel.size)⟩
theorem do_ha (hh:Ha W h p t d R H wv kv w) (q:SReq) (qA:Option Addr) (qn qcap:Nat) (hq:ReqOk w q qA qn qcap) (hn:∀b,sblk (.slice qA qn qcap)=some b→¬Own p R b∧b≠h∧sblk wv≠some b) (hser:q.verb=9→H.ser<100) (hg:q.verb=9→4<W.heap.size∧tabOk W):
 Calls Tryz.prog 25 #[.pointer (some ⟨h,0,none⟩),reqV q (.slice qA qn qcap)] w (DoH W h p t d R H wv kv q w):=by
 refine (do_all w h p R H t d wv kv hh.hl q qA qn qcap hq hn hser W.heap.size hh.yg hh.bel.size fun h9=>?_).mono fun e w' hp=>?_
 ·obtain ⟨g1,g2⟩:=hg h9
  exact ⟨g1,(hh.bel.cell (p:=⟨4,15,none⟩) g1).trans g2⟩
 ·obtain ⟨a,v,H',wv',kv',R',rfl,hl,hs,ho,hx,h0⟩:=hp
  have hha:Ha W h p t d R' H' wv' kv' w':=⟨hl,hh.yg.step hs hh.bel.size,hh.bel.trans (hh.yg.below hs hh.bel.size)⟩
  by_cases e:a.code=0
  ·obtain ⟨g1,g2,g3⟩:=h0 e
   obtain ⟨vA,vcap,rfl,_,_⟩:=g2.form
   exact ⟨a,vA,_,vcap,H',wv',kv',R',rfl,⟨fun hn=>absurd e hn,fun _=>g1,ho⟩,hha,hs,g2,g3⟩
  ·obtain ⟨g1,rfl,g3,g4,g5,g6,g7⟩:=hx e
   refine ⟨a,none,0,0,H',wv',kv',R',rfl,⟨fun _=>⟨g1,g3,g4,g5,g6,g7⟩,fun h=>absurd h e,ho⟩,hha,hs,?_,fun b hb=>by simp [sblk] at hb⟩
   rw [g1]
   exact rd_none w'
end
def FarB (h p:Nat) (R:ArR) (wv:Value) (b:Nat):Prop:=¬Own p R b∧b≠h∧sblk wv≠some b
section
variable {W w w' : World} {h p t : Nat} {d : Int} {R R' : ArR} {H : HS} {wv kv wv' kv' : Value} {b : Nat}
theorem Ha.new (hh:Ha W h p t d R H wv kv w) (hb:w.heap.size≤b):FarB h p R wv b:=⟨(hh.hl.new hb).1,(hh.hl.new hb).2.1,(hh.hl.new hb).2.2.1⟩
theorem FarB.step (hf:FarB h p R wv b) (hs:HStep h p R wv kv R' wv' kv' w w') (hb:b<w.heap.size):FarB h p R' wv' b:=
 ⟨fun ho=>(hs.own b ho).elim hf.1 fun k=>by omega,hf.2.1,fun e=>(hs.nw b e).elim hf.2.2 fun k=>by omega⟩
theorem FarB.no (hf:FarB h p R wv b):¬(Own p R b∨b=h∨sblk wv=some b):=fun ho=>ho.elim hf.1 fun k=>k.elim hf.2.1 hf.2.2
theorem FarB.blk (hf:FarB h p R wv b) (hs:HStep h p R wv kv R' wv' kv' w w') {ty:TypeId} {cs:Array Value} (hb:Blk w b ty cs):Blk w' b ty cs:=hb.mod hs.mod hf.no
structure Mine (h p:Nat) (R:ArR) (wv:Value) (w:World) (b:Nat) (ty:TypeId) (cs:Array Value):Prop where
 far:FarB h p R wv b
 blk:Blk w b ty cs
theorem Mine.step {ty:TypeId} {cs:Array Value} (hm:Mine h p R wv w b ty cs) (hs:HStep h p R wv kv R' wv' kv' w w'):Mine h p R' wv' w' b ty cs:=⟨hm.far.step hs hm.blk.lt,hm.far.blk hs hm.blk⟩
theorem Mine.below {ty:TypeId} {cs:Array Value} (hm:Mine h p R wv w b ty cs) (hb:Below w.heap.size w w'):Mine h p R wv w' b ty cs:=⟨hm.far,hm.blk.mod (Mod.of_below_all hb) id⟩
structure MyCells (h p:Nat) (R:ArR) (wv:Value) (w:World) (v:Value) (l:List (Int×Int)):Prop where
 rd:Rd w w.heap.size 2 v l.length (flat l)
 far:∀b,sblk v=some b→b<w.heap.size→FarB h p R wv b
 lt:∀b,sblk v=some b→b<w.heap.size
theorem MyCells.step {v:Value} {l:List (Int×Int)} (hm:MyCells h p R wv w v l) (hs:HStep h p R wv kv R' wv' kv' w w'):MyCells h p R' wv' w' v l:=
 ⟨hm.rd.stepX hs.mod fun b hb hlt=>(hm.far b hb hlt).no,fun b hb _=>(hm.far b hb (hm.lt b hb)).step hs (hm.lt b hb),fun b hb=>Nat.lt_of_lt_of_le (hm.lt b hb) hs.mod.size⟩
theorem MyCells.below {v:Value} {l:List (Int×Int)} (hm:MyCells h p R wv w v l) (hb:Below w.heap.size w w'):MyCells h p R wv w' v l:=
 ⟨hm.rd.stepX (Mod.of_below_all hb) fun _ _ _ h=>h,fun b hb' _=>hm.far b hb' (hm.lt b hb'),fun b hb'=>Nat.lt_of_lt_of_le (hm.lt b hb') hb.size⟩
end
theorem DoR.ser {H H':HS} {q:SReq} {t:Nat} {d:Int} {a:An} (hd:DoR H q t d a H'):H'.ser≤H.ser+1:=by
 by_cases e:a.code=0
 ·have hg:=hd.yes e
  cases hg with
  | new _ h=>obtain ⟨_,_,_,r,_,_,h1,_⟩:=h;rw [h1];show H.ser≤_;omega
  | set _ h=>obtain ⟨_,_,y,s,r,_,_,_,_,_,h1,_⟩:=h;rw [h1];show H.ser≤_;omega
  | read _ h=>obtain ⟨h1,_⟩:=h;rw [h1];show H.ser≤_;omega
  | step _ h=>obtain ⟨_,_,y,L,r,κ,_,_,_,_,_,_,_,h1,_⟩:=h;rw [h1];show H.ser≤_;omega
  | drop _ h=>obtain ⟨i,_,_,h1⟩:=h;rw [h1];show H.ser≤_;omega
  | copy _ h=>obtain ⟨_,y,_,h⟩:=h;obtain ⟨_,_,_,r,_,_,h1,_⟩:=h;rw [h1];show H.ser≤_;omega
  | lease _ h=>obtain ⟨_,_,h1⟩:=h;rw [h1];show H.ser+1≤_;omega
  | clean _ h=>obtain ⟨_,_,h1,_⟩:=h;rw [h1];show H.ser≤_;omega
 ·have:=(hd.no e).2.2.2.1;omega
theorem reqOk_nil (w:World) (q:SReq) (hn:q.name.length≤4294967296) (ho:q.other.length≤4294967296) (hc:q.cells= []) (hb: -9223372036854775808≤q.b∧q.b≤9223372036854775807):ReqOk w q none 0 0:=
 ⟨hn,ho,by rw [hc];exact (Sl.nil w 109 2).rd,by decide,hb⟩
end Go.Proofs.YthohnjgnpapnoaaGreatDoor
namespace Go.Proofs.YthohnjgnpapnoaaGreatDoor
open Go.RowKit
def CopyPost (w:World) (n:Nat) (l:List (Int×Int)) (e:Ending) (w':World):Prop:=
 ∃v',e= .returned v'∧Sl w' 109 2 v' n (flat l)∧(∀b,sblk v'=some b→w.heap.size≤b)∧Below w.heap.size w w'
theorem cells_any (w:World) (B n:Nat) (v:Value) (l:List (Int×Int)) (h:Rd w B 2 v n (flat l)) (hn:n*16≤140737488355328):
 Calls Tryz.prog 29 #[v] w (CopyPost w n l):=by
 obtain ⟨A,cap,rfl,hc1,hc2⟩:=h.form
 have HR:=Lib.hid h
 have HSL:=Lib.hid (Sl.nil w 109 2)
 unfold maxLen at hc2
 clear h
 go_enter Tryz.func29,Tryz.ntmps29
 go_wp2_with (at_builtin;refine wpList_append_sl _ rfl (.const (.slice none 0 0)) (.tmp 3) 55 rfl 109 (.agg #[.int .i64 0,.int .i64 0]) 2 16 Tryz.underlying55 Tryz.info109 rfl (by decide) rfl HSL.out rfl HR.out flat_one (by omega) (by unfold maxLen;omega) ?_;intro v' w1 hs1 hm1 hd1)
 go_ret
 obtain ⟨f1,f2⟩:=fresh_of (w:=w) (v:= .slice none 0 0) hm1 hd1 (Below.refl _ _) (fun b hb=>by simp [sblk] at hb)
 exact ⟨v',rfl,by simpa using hs1,f1,f2⟩
end Go.Proofs.YthohnjgnpapnoaaGreatDoor
namespace Go.Proofs.YthohnjgnpapnoaaGreatDoor
open Go.RowKit
section
variable {W w w' : World} {h p t : Nat} {d : Int} {R : ArR} {H : HS} {wv kv : Value}
end
end Go.Proofs.YthohnjgnpapnoaaGreatDoor
namespace Go.Proofs.YthohnjgnpapnoaaGreatDoor
open Go.RowKit
def Far4 (h p:Nat) (R:ArR) (wv kv:Value) (b:Nat):Prop:=FarB h p R wv b∧sblk kv≠some b
structure Sees (h p:Nat) (R:ArR) (wv:Value) (bs:List Nat) (w:World) (v:Value) (l:List (Int×Int)):Prop where
 rd:Rd w w.heap.size 2 v l.length (flat l)
 far:l≠ []→∀b,sblk v=some b→b<w.heap.size∧FarB h p R wv b∧b∉bs
structure LSt (W:World) (h p t:Nat) (d:Int) (R:ArR) (H:HS) (wv kv:Value) (Bs:List (Nat×TypeId×Array Value)) (Rs Ms:List (Value×List (Int×Int))) (w:World):Prop where
 ha:Ha W h p t d R H wv kv w
 far:∀x∈Bs,Far4 h p R wv kv x.1∧W.heap.size≤x.1
 blk:∀x∈Bs,Blk w x.1 x.2.1 x.2.2
 nd:(Bs.map (·.1)).Nodup
 rd:∀x∈Rs,Sees h p R wv (Bs.map (·.1)) w x.1 x.2
 my:∀x∈Ms,MyCells h p R wv w x.1 x.2∧∀b,sblk x.1=some b→b∉Bs.map (·.1)
section
variable {W w w' : World} {h p t : Nat} {d : Int} {R R' : ArR} {H H' : HS} {wv kv wv' kv' : Value} {Bs : List (Nat × TypeId × Array Value)} {Rs Ms : List (Value × List (Int × Int))}
theorem Ha.new4 (hh:Ha W h p t d R H wv kv w) {b:Nat} (hb:w.heap.size≤b):Far4 h p R wv kv b:=⟨hh.new hb,(hh.hl.new hb).2.2.2⟩
theorem Far4.step {b:Nat} (hf:Far4 h p R wv kv b) (hs:HStep h p R wv kv R' wv' kv' w w') (hb:b<w.heap.size):Far4 h p R' wv' kv' b:=
 ⟨hf.1.step hs hb,fun e=>(hs.nk b e).elim hf.2 fun k=>by omega⟩
theorem rd_empty {v:Value} {B:Nat} (h:Rd w B 2 v 0 (flat [])) (w':World) (B':Nat):Rd w' B' 2 v 0 (flat []):=by
 obtain ⟨A,cap,rfl,h1,h2⟩:=h.form
 exact ⟨rfl,A,cap,rfl,h1,h2,fun hn=>absurd hn (Nat.lt_irrefl _)⟩
theorem Sees.mod {T:Nat→Prop} {bs bs':List Nat} {v:Value} {l:List (Int×Int)} (hs:Sees h p R wv bs w v l) (hm:Mod T w w') (h1:∀b,b<w.heap.size→FarB h p R wv b→b∉bs→¬T b) (h2:∀b,b<w.heap.size→FarB h p R wv b→FarB h p R' wv' b) (h3:∀b∈bs',b∈bs∨w.heap.size≤b):Sees h p R' wv' bs' w' v l:=by
 by_cases e:l= []
 ·subst e
  exact ⟨rd_empty hs.rd _ _,fun e=>absurd rfl e⟩
 ·refine ⟨hs.rd.stepX hm fun b hb hlt=>?_,fun _ b hb=>?_⟩
  ·obtain ⟨_,g1,g2⟩:=hs.far e b hb
   exact h1 b hlt g1 g2
  ·obtain ⟨g0,g1,g2⟩:=hs.far e b hb
   refine ⟨Nat.lt_of_lt_of_le g0 hm.size,h2 b g0 g1,fun q=>?_⟩
   rcases h3 b q with k | k
   ·exact g2 k
   ·omega
theorem LSt.below (L:LSt W h p t d R H wv kv Bs Rs Ms w) (hb:Below w.heap.size w w'):LSt W h p t d R H wv kv Bs Rs Ms w':=
 ⟨L.ha.below hb,L.far,fun x hx=>(L.blk x hx).mod (Mod.of_below_all hb) id,L.nd,fun x hx=>(L.rd x hx).mod (Mod.of_below_all hb) (fun _ _ _ _ h=>h) (fun _ _ h=>h) fun _ h=> .inl h,fun x hx=>⟨(L.my x hx).1.below hb,(L.my x hx).2⟩⟩
theorem LSt.lt (L:LSt W h p t d R H wv kv Bs Rs Ms w) {b:Nat} (hb:b∈Bs.map (·.1)):b<w.heap.size:=by
 obtain ⟨x,hx,rfl⟩:=List.mem_map.1 hb
 exact (L.blk x hx).lt
theorem below_alloc (w:World) (o:Obj):Below w.heap.size w (w.alloc o):=(Below.refl _ _).alloc (Nat.le_refl _) o
theorem LSt.alloc (L:LSt W h p t d R H wv kv Bs Rs Ms w) (ty:TypeId) (cs:Array Value):LSt W h p t d R H wv kv ((w.heap.size,ty,cs)::Bs) Rs Ms (w.alloc (.cells cs ty)):=by
 have L2:=L.below (below_alloc w (.cells cs ty))
 refine ⟨L2.ha,fun x hx=>?_,fun x hx=>?_,?_,fun x hx=>?_,fun x hx=>?_⟩
 ·rcases List.mem_cons.1 hx with rfl | hx
  ·exact ⟨L.ha.new4 (Nat.le_refl _),L.ha.bel.size⟩
  ·exact L.far x hx
 ·rcases List.mem_cons.1 hx with rfl | hx
  ·exact Blk.new w ty cs
  ·exact L2.blk x hx
 ·rw [List.map_cons,List.nodup_cons]
  exact ⟨fun q=>Nat.lt_irrefl _ (L.lt q),L.nd⟩
 ·exact (L.rd x hx).mod (Mod.of_below_all (below_alloc w (.cells cs ty))) (fun _ _ _ _ h=>h) (fun _ _ h=>h) fun b hb=>by
   rw [List.map_cons] at hb
   rcases List.mem_cons.1 hb with rfl | hb
   ·exact .inr (Nat.le_refl _)
   ·exact .inl hb
 ·refine ⟨(L2.my x hx).1,fun b hb q=>?_⟩
  rw [List.map_cons] at q
  rcases List.mem_cons.1 q with rfl | q
  ·exact Nat.lt_irrefl _ ((L.my x hx).1.lt _ hb)
  ·exact (L.my x hx).2 b hb q
theorem LSt.write {b:Nat} {ty:TypeId} {cs cs':Array Value} (L:LSt W h p t d R H wv kv ((b,ty,cs)::Bs) Rs Ms w) (hb:Blk w' b ty cs') (hm:Mod (fun q=>q=b) w w'):LSt W h p t d R H wv kv ((b,ty,cs')::Bs) Rs Ms w':=by
 obtain ⟨⟨f1,f2⟩,f3⟩:=L.far _ List.mem_cons_self
 dsimp only at f1 f2 f3
 have hnd:=L.nd
 rw [List.map_cons,List.nodup_cons] at hnd
 refine ⟨⟨L.ha.hl.far hm (fun q hq e=>f1.1 (e▸hq)) (fun e=>f1.2.1 e.symm) (fun q hq e=>f1.2.2 (e▸hq)) (fun q hq e=>f2 (e▸hq)),L.ha.yg,L.ha.bel.trans (hm.below L.ha.bel.size fun q hq e=>by omega)⟩,fun x hx=>?_,fun x hx=>?_,L.nd,fun x hx=>?_,fun x hx=>?_⟩
 ·rcases List.mem_cons.1 hx with rfl | hx
  ·exact ⟨⟨f1,f2⟩,f3⟩
  ·exact L.far x (List.mem_cons_of_mem _ hx)
 ·rcases List.mem_cons.1 hx with rfl | hx
  ·exact hb
  ·exact (L.blk x (List.mem_cons_of_mem _ hx)).mod hm fun e=>hnd.1 (by rw [←e];exact List.mem_map.2 ⟨x,hx,rfl⟩)
 ·exact (L.rd x hx).mod hm (fun q _ _ hq e=>hq (by rw [e,List.map_cons];exact List.mem_cons_self)) (fun _ _ h=>h) fun _ h=> .inl h
 ·obtain ⟨g1,g2⟩:=L.my x hx
  refine ⟨⟨g1.rd.stepX hm fun q hq _ e=>g2 q hq (by rw [e,List.map_cons];exact List.mem_cons_self),fun q hq _=>g1.far q hq (g1.lt q hq),fun q hq=>Nat.lt_of_lt_of_le (g1.lt q hq) hm.size⟩,g2⟩
theorem LSt.drop {x:Value×List (Int×Int)} (L:LSt W h p t d R H wv kv Bs (x::Rs) Ms w):LSt W h p t d R H wv kv Bs Rs Ms w:=⟨L.ha,L.far,L.blk,L.nd,fun y hy=>L.rd y (List.mem_cons_of_mem _ hy),L.my⟩
theorem LSt.dropM {x:Value×List (Int×Int)} (L:LSt W h p t d R H wv kv Bs Rs (x::Ms) w):LSt W h p t d R H wv kv Bs Rs Ms w:=⟨L.ha,L.far,L.blk,L.nd,L.rd,fun y hy=>L.my y (List.mem_cons_of_mem _ hy)⟩
theorem LSt.step (L:LSt W h p t d R H wv kv Bs Rs Ms w) (hh:Ha W h p t d R' H' wv' kv' w') (hs:HStep h p R wv kv R' wv' kv' w w') {v:Value} {l:List (Int×Int)} (hr:Rd w' w'.heap.size 2 v l.length (flat l)) (hf:∀b,sblk v=some b→w.heap.size≤b∧¬Own p R' b∧b≠h∧sblk wv'≠some b):LSt W h p t d R' H' wv' kv' Bs ((v,l)::Rs) Ms w':=by
 refine ⟨hh,fun x hx=>⟨(L.far x hx).1.step hs (L.blk x hx).lt,(L.far x hx).2⟩,fun x hx=>(L.far x hx).1.1.blk hs (L.blk x hx),L.nd,fun x hx=>?_,fun x hx=>⟨(L.my x hx).1.step hs,(L.my x hx).2⟩⟩
 rcases List.mem_cons.1 hx with rfl | hx
 ·refine ⟨hr,fun e b hb=>?_⟩
  obtain ⟨g1,g2⟩:=hf b hb
  have hn:0<l.length:=List.length_pos_iff.2 e
  obtain ⟨b',off,cap,rfl,_,_,hlt,_⟩:=hr.at hn
  have:b'=b:=by simpa [sblk] using hb
  subst this
  refine ⟨hlt,g2,fun q=>?_⟩
  have:=L.lt q
  omega
 ·exact (L.rd x hx).mod hs.mod (fun b _ hf _=>hf.no) (fun b hb hf=>hf.step hs hb) fun _ h=> .inl h
def DoL (W:World) (h p t:Nat) (d:Int) (R:ArR) (H:HS) (wv kv:Value) (Bs:List (Nat×TypeId×Array Value)) (Rs Ms:List (Value×List (Int×Int))) (q:SReq) (w:World) (e:Ending) (w':World):Prop:=
 ∃(a:An) (vA:Option Addr) (vn vcap:Nat) (H':HS) (wv' kv':Value) (R':ArR),e= .returned (ansV a (.slice vA vn vcap))∧DoR H q t d a H'∧LSt W h p t d R' H' wv' kv' Bs ((.slice vA vn vcap,a.cells)::Rs) Ms w'∧w.heap.size≤w'.heap.size
theorem LSt.done (L:LSt W h p t d R H wv kv Bs Rs Ms w) {q:SReq} {e:Ending} (hd:DoH W h p t d R H wv kv q w e w'):DoL W h p t d R H wv kv Bs Rs Ms q w e w':=by
 obtain ⟨a,vA,vn,vcap,H',wv',kv',R',g1,g2,g3,g4,g5,g6⟩:=hd
 obtain ⟨A,cap,hv,_⟩:=g5.form
 injection hv with _ hn _
 subst hn
 exact ⟨a,vA,_,vcap,H',wv',kv',R',g1,g2,L.step g3 g4 g5 g6,g4.mod.size⟩
theorem LSt.do_nil (L:LSt W h p t d R H wv kv Bs Rs Ms w) (q:SReq) (hn:q.name.length≤4294967296) (ho:q.other.length≤4294967296) (hc:q.cells= []) (hb: -9223372036854775808≤q.b∧q.b≤9223372036854775807) (hser:q.verb=9→H.ser<100) (hg:q.verb=9→4<W.heap.size∧tabOk W):
 Calls Tryz.prog 25 #[.pointer (some ⟨h,0,none⟩),reqV q (.slice none 0 0)] w (DoL W h p t d R H wv kv Bs Rs Ms q w):=
 (do_ha L.ha q none 0 0 (reqOk_nil _ _ hn ho hc hb) (fun b hb=>by simp [sblk] at hb) hser hg).mono fun _ _ hd=>L.done hd
theorem LSt.do_own (L:LSt W h p t d R H wv kv Bs Rs Ms w) (q:SReq) (qA:Option Addr) (qcap:Nat) (hm:((.slice qA q.cells.length qcap:Value),q.cells)∈Ms) (hn:q.name.length≤4294967296) (ho:q.other.length≤4294967296) (hl:q.cells.length*16≤140737488355328) (hb: -9223372036854775808≤q.b∧q.b≤9223372036854775807) (hser:q.verb=9→H.ser<100) (hg:q.verb=9→4<W.heap.size∧tabOk W):
 Calls Tryz.prog 25 #[.pointer (some ⟨h,0,none⟩),reqV q (.slice qA q.cells.length qcap)] w (DoL W h p t d R H wv kv Bs Rs Ms q w):=by
 have hc:=(L.my _ hm).1
 exact (do_ha L.ha q qA q.cells.length qcap ⟨hn,ho,hc.rd,by unfold maxLen;omega,hb⟩ (fun b hb'=>hc.far b hb' (hc.lt b hb')) hser hg).mono fun _ _ hd=>L.done hd
def CelL (W:World) (h p t:Nat) (d:Int) (R:ArR) (H:HS) (wv kv:Value) (Bs:List (Nat×TypeId×Array Value)) (Rs Ms:List (Value×List (Int×Int))) (l:List (Int×Int)) (w:World) (e:Ending) (w':World):Prop:=
 ∃vA vcap,e= .returned (.slice vA l.length vcap)∧LSt W h p t d R H wv kv Bs Rs ((.slice vA l.length vcap,l)::Ms) w'∧Below w.heap.size w w'
theorem LSt.made (L:LSt W h p t d R H wv kv Bs Rs Ms w) {v:Value} {l:List (Int×Int)} (hb:Below w.heap.size w w') (hr:Sl w' 109 2 v l.length (flat l)) (hf:∀b,sblk v=some b→w.heap.size≤b):LSt W h p t d R H wv kv Bs Rs ((v,l)::Ms) w':=by
 have L2:=L.below hb
 refine ⟨L2.ha,L2.far,L2.blk,L2.nd,L2.rd,fun x hx=>?_⟩
 rcases List.mem_cons.1 hx with rfl | hx
 ·exact ⟨⟨hr.rd,fun b hb' _=>L.ha.new (hf b hb'),fun b hb'=>(hr.lt hb').1⟩,fun b hb' q=>by have:=L.lt q;have:=hf b hb';omega⟩
 ·exact L2.my x hx
theorem LSt.copy (L:LSt W h p t d R H wv kv Bs Rs Ms w) {v:Value} {l:List (Int×Int)} (hm:(v,l)∈Ms) (hn:l.length*16≤140737488355328):
 Calls Tryz.prog 29 #[v] w (CelL W h p t d R H wv kv Bs Rs Ms l w):=by
 refine (cells_any w w.heap.size l.length v l (L.my _ hm).1.rd hn).mono fun e w' hp=>?_
 obtain ⟨v',rfl,hsl,hf,hb⟩:=hp
 obtain ⟨vA,vcap,rfl,_,_⟩:=hsl.rd.form
 exact ⟨vA,vcap,rfl,L.made hb hsl hf,hb⟩
theorem LSt.cell (L:LSt W h p t d R H wv kv Bs Rs Ms w) {b:Nat} {ty:TypeId} {cs:Array Value} (hm:(b,ty,cs)∈Bs) (i:Nat) {v:Value} (hv:cs[i]? =some v):w.cell? ⟨b,i,none⟩=some v:=(L.blk _ hm).cellS hv
theorem LSt.frozen (L:LSt W h p t d R H wv kv Bs Rs Ms w) {b:Nat} {ty:TypeId} {cs:Array Value} (hm:(b,ty,cs)∈Bs) (i:Nat):w.frozen? ⟨b,i,none⟩=false:=(L.blk _ hm).frozen i
theorem LSt.ne (L:LSt W h p t d R H wv kv Bs Rs Ms w) {b:Nat} (hb:b∈Bs.map (·.1)):b≠w.heap.size:=fun e=>by have:=L.lt hb;omega
end
end Go.Proofs.YthohnjgnpapnoaaGreatDoor
