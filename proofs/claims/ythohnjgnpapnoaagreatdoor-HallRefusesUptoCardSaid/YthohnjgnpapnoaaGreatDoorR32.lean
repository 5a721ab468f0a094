/- hall: try, verb by verb. Printed by gen_try.py. · hall: try: new. -/
import Derived.Test.YthohnjgnpapnoaaGreatDoorR21
import Derived.Test.YthohnjgnpapnoaaGreatDoorR26
import Derived.Test.YthohnjgnpapnoaaGreatDoorR29
import Derived.Test.YthohnjgnpapnoaaGreatDoorR30
import Derived.Test.YthohnjgnpapnoaaGreatDoorR31
set_option linter.unusedVariables false
set_option linter.unusedSimpArgs false
namespace Go.Proofs.YthohnjgnpapnoaaGreatDoor
open Go.RowKit
def ElseF (H:HS) (x:Int) (H':HS):Prop:=x=4∧H'=H
set_option maxRecDepth 100000 in
set_option maxHeartbeats 12800000 in
theorem try_set (w:World) (h p:Nat) (R:ArR) (H:HS) (t:Nat) (d:Int) (wv kv:Value) (HH:Hl w h p R H.S H.A t d H.Ws wv H.ser H.K kv) (q:SReq) (qA:Option Addr) (qn qcap:Nat) (hn:q.name.length≤4294967296) (hqr:Rd w w.heap.size 2 (.slice qA qn qcap) qn (flat q.cells)) (hql:qn≤maxLen) (hv:q.verb=2):
 Calls Tryz.prog 47 #[.pointer (some ⟨h,0,none⟩),reqV q (.slice qA qn qcap)] w (TryP w h p R H t d wv kv (SetF H q t) (SetG H q t)):=by
 have HL:=Lib.hid HH
 have hv1:(q.verb==1)=false:=by simp [hv]
 have hv2:(q.verb==2)=true:=by simp [hv]
 have HCT:=Lib.hid (fun (w1:World) (h1:Hl w1 h p R H.S H.A t d H.Ws wv H.ser H.K kv) (h2:Rd w1 w1.heap.size 2 (.slice qA qn qcap) qn (flat q.cells))=>set_any w1 h p R H t d wv kv h1 q qA qn qcap hn h2 hql)
 have HQR:=Lib.hid hqr
 clear hqr
 clear HH hv
 try unfold reqV at HCT
 unfold reqV
 go_enter Tryz.func47,Tryz.ntmps47
 go_wp2_with fail
 generalize hw0:World.alloc (World.alloc (World.alloc w _) _) _=w0
 obtain ⟨s1,q0,n0,s0,hh0,s00⟩:=slots3 w h q (.slice qA qn qcap) (w0:=w0) hw0
 have HSL:=Lib.hid s1
 have HN0:=Lib.hid n0
 have HQ0:=Lib.hid q0
 have HL0:=Lib.hid (HL.out.below s1.bel)
 clear hw0 q0 n0 s0 hh0 s00 s1
 (with_reducible refine (HCT.out _ HL0.out (HQR.out.stepX (Mod.of_below_all HSL.out.bel) (fun _ _ _ h=>h))).mono ?_)
 intro e w4 hq
 obtain ⟨a,vA,vn,vcap,x,rfl,hbk,hfin⟩:=try_pass HSL.out HL.out HN0.out hq (fun _ _ g=>g) (fun _ _ g=>g)
 have HN4:=Lib.hid hbk
 have HFN:=Lib.hid hfin
 clear hbk hfin hq
 unfold ansV
 have zb:=HN4.out
 have z0:w4.cell? ⟨w.heap.size+1+1,0,none⟩=some (.int .i64 0):=zb.cellS rfl
 have z1:w4.cell? ⟨w.heap.size+1+1,1,none⟩=some (.int .i64 0):=zb.cellS rfl
 have z2:w4.cell? ⟨w.heap.size+1+1,2,none⟩=some (.int .i64 0):=zb.cellS rfl
 have z3:w4.cell? ⟨w.heap.size+1+1,3,none⟩=some (.int .i64 0):=zb.cellS rfl
 have z4:w4.cell? ⟨w.heap.size+1+1,4,none⟩=some (.int .i64 0):=zb.cellS rfl
 have z5:w4.cell? ⟨w.heap.size+1+1,5,none⟩=some (.int .i64 0):=zb.cellS rfl
 have z6:w4.cell? ⟨w.heap.size+1+1,6,none⟩=some (.int .i64 0):=zb.cellS rfl
 have z7:w4.cell? ⟨w.heap.size+1+1,7,none⟩=some (.int .i64 0):=zb.cellS rfl
 have z8:w4.cell? ⟨w.heap.size+1+1,8,none⟩=some (.string ⟨#[]⟩):=zb.cellS rfl
 have z9:w4.cell? ⟨w.heap.size+1+1,9,none⟩=some (.slice none 0 0):=zb.cellS rfl
 have zf0:=zb.frozen 0
 have zf1:=zb.frozen 1
 have zf2:=zb.frozen 2
 have zf3:=zb.frozen 3
 have zf4:=zb.frozen 4
 have zf5:=zb.frozen 5
 have zf6:=zb.frozen 6
 have zf7:=zb.frozen 7
 have zf8:=zb.frozen 8
 have zf9:=zb.frozen 9
 go_wp2_with fail
 have hbm:Blk ((((((((((w4.setCell ⟨w.heap.size+1+1,0,none⟩ (.int .i64 a.code)).setCell ⟨w.heap.size+1+1,1,none⟩ (.int .i64 a.n)).setCell ⟨w.heap.size+1+1,2,none⟩ (.int .i64 a.x0)).setCell ⟨w.heap.size+1+1,3,none⟩ (.int .i64 a.y0)).setCell ⟨w.heap.size+1+1,4,none⟩ (.int .i64 a.x1)).setCell ⟨w.heap.size+1+1,5,none⟩ (.int .i64 a.y1)).setCell ⟨w.heap.size+1+1,6,none⟩ (.int .i64 a.b)).setCell ⟨w.heap.size+1+1,7,none⟩ (.int .i64 a.l)).setCell ⟨w.heap.size+1+1,8,none⟩ (.string (str a.key))).setCell ⟨w.heap.size+1+1,9,none⟩ (.slice vA vn vcap)) (w.heap.size+1+1) 57 (anC a (.slice vA vn vcap))∧Mod (fun b=>b=w.heap.size+1+1) w4 ((((((((((w4.setCell ⟨w.heap.size+1+1,0,none⟩ (.int .i64 a.code)).setCell ⟨w.heap.size+1+1,1,none⟩ (.int .i64 a.n)).setCell ⟨w.heap.size+1+1,2,none⟩ (.int .i64 a.x0)).setCell ⟨w.heap.size+1+1,3,none⟩ (.int .i64 a.y0)).setCell ⟨w.heap.size+1+1,4,none⟩ (.int .i64 a.x1)).setCell ⟨w.heap.size+1+1,5,none⟩ (.int .i64 a.y1)).setCell ⟨w.heap.size+1+1,6,none⟩ (.int .i64 a.b)).setCell ⟨w.heap.size+1+1,7,none⟩ (.int .i64 a.l)).setCell ⟨w.heap.size+1+1,8,none⟩ (.string (str a.key))).setCell ⟨w.heap.size+1+1,9,none⟩ (.slice vA vn vcap)):=an_stored HN4.out a (.slice vA vn vcap)
 obtain ⟨hbk,hmd⟩:=hbm
 generalize hWW:World.setCell _ _ _=WW at hbk hmd ⊢
 have k0:WW.cell? ⟨w.heap.size+1+1,0,none⟩=some (.int .i64 a.code):=hbk.cellS rfl
 have k1:WW.cell? ⟨w.heap.size+1+1,1,none⟩=some (.int .i64 a.n):=hbk.cellS rfl
 have k2:WW.cell? ⟨w.heap.size+1+1,2,none⟩=some (.int .i64 a.x0):=hbk.cellS rfl
 have k3:WW.cell? ⟨w.heap.size+1+1,3,none⟩=some (.int .i64 a.y0):=hbk.cellS rfl
 have k4:WW.cell? ⟨w.heap.size+1+1,4,none⟩=some (.int .i64 a.x1):=hbk.cellS rfl
 have k5:WW.cell? ⟨w.heap.size+1+1,5,none⟩=some (.int .i64 a.y1):=hbk.cellS rfl
 have k6:WW.cell? ⟨w.heap.size+1+1,6,none⟩=some (.int .i64 a.b):=hbk.cellS rfl
 have k7:WW.cell? ⟨w.heap.size+1+1,7,none⟩=some (.int .i64 a.l):=hbk.cellS rfl
 have k8:WW.cell? ⟨w.heap.size+1+1,8,none⟩=some (.string (str a.key)):=hbk.cellS rfl
 have k9:WW.cell? ⟨w.heap.size+1+1,9,none⟩=some (.slice vA vn vcap):=hbk.cellS rfl
 clear hWW hbk
 refine bodyPost_ret (v:= .tuple #[ansV a (.slice vA vn vcap),.int .i64 x]) (by simp [results,Tryz.results47,go_sem,ansV,An.zero,k0,k1,k2,k3,k4,k5,k6,k7,k8,k9,str]) rfl ?_
 exact HFN.out _ hmd
set_option maxRecDepth 100000 in
set_option maxHeartbeats 12800000 in
theorem try_get (w:World) (h p:Nat) (R:ArR) (H:HS) (t:Nat) (d:Int) (wv kv:Value) (HH:Hl w h p R H.S H.A t d H.Ws wv H.ser H.K kv) (q:SReq) (qA:Option Addr) (qn qcap:Nat) (hn:q.name.length≤4294967296) (hv:q.verb=3):
 Calls Tryz.prog 47 #[.pointer (some ⟨h,0,none⟩),reqV q (.slice qA qn qcap)] w (TryP w h p R H t d wv kv (ReadF H q) (ReadG H q)):=by
 have HL:=Lib.hid HH
 have hv1:(q.verb==1)=false:=by simp [hv]
 have hv2:(q.verb==2)=false:=by simp [hv]
 have hv3:(q.verb==3)=true:=by simp [hv]
 have HCT:=Lib.hid (fun (w1:World) (h1:Hl w1 h p R H.S H.A t d H.Ws wv H.ser H.K kv)=>read_any w1 h p R H t d wv kv h1 q qA qn qcap hn (.inl hv))
 clear HH hv
 try unfold reqV at HCT
 unfold reqV
 go_enter Tryz.func47,Tryz.ntmps47
 go_wp2_with fail
 generalize hw0:World.alloc (World.alloc (World.alloc w _) _) _=w0
 obtain ⟨s1,q0,n0,s0,hh0,s00⟩:=slots3 w h q (.slice qA qn qcap) (w0:=w0) hw0
 have HSL:=Lib.hid s1
 have HN0:=Lib.hid n0
 have HQ0:=Lib.hid q0
 have HL0:=Lib.hid (HL.out.below s1.bel)
 clear hw0 q0 n0 s0 hh0 s00 s1
 (with_reducible refine (HCT.out _ HL0.out).mono ?_)
 intro e w4 hq
 obtain ⟨a,vA,vn,vcap,x,rfl,hbk,hfin⟩:=try_pass HSL.out HL.out HN0.out hq (fun _ _ g=>g) (fun _ _ g=>g)
 have HN4:=Lib.hid hbk
 have HFN:=Lib.hid hfin
 clear hbk hfin hq
 unfold ansV
 have zb:=HN4.out
 have z0:w4.cell? ⟨w.heap.size+1+1,0,none⟩=some (.int .i64 0):=zb.cellS rfl
 have z1:w4.cell? ⟨w.heap.size+1+1,1,none⟩=some (.int .i64 0):=zb.cellS rfl
 have z2:w4.cell? ⟨w.heap.size+1+1,2,none⟩=some (.int .i64 0):=zb.cellS rfl
 have z3:w4.cell? ⟨w.heap.size+1+1,3,none⟩=some (.int .i64 0):=zb.cellS rfl
 have z4:w4.cell? ⟨w.heap.size+1+1,4,none⟩=some (.int .i64 0):=zb.cellS rfl
 have z5:w4.cell? ⟨w.heap.size+1+1,5,none⟩=some (.int .i64 0):=zb.cellS rfl
 have z6:w4.cell? ⟨w.heap.size+1+1,6,none⟩=some (.int .i64 0):=zb.cellS rfl
 have z7:w4.cell? ⟨w.heap.size+1+1,7,none⟩=some (.int .i64 0):=zb.cellS rfl
 have z8:w4.cell? ⟨w.heap.size+1+1,8,none⟩=some (.string ⟨#[]⟩):=zb.cellS rfl
 have z9:w4.cell? ⟨w.heap.size+1+1,9,none⟩=some (.slice none 0 0):=zb.cellS rfl
 have zf0:=zb.frozen 0
 have zf1:=zb.frozen 1
 have zf2:=zb.frozen 2
 have zf3:=zb.frozen 3
 have zf4:=zb.frozen 4
 have zf5:=zb.frozen 5
 have zf6:=zb.frozen 6
 have zf7:=zb.frozen 7
 have zf8:=zb.frozen 8
 have zf9:=zb.frozen 9
 go_wp2_with fail
 have hbm:Blk ((((((((((w4.setCell ⟨w.heap.size+1+1,0,none⟩ (.int .i64 a.code)).setCell ⟨w.heap.size+1+1,1,none⟩ (.int .i64 a.n)).setCell ⟨w.heap.size+1+1,2,none⟩ (.int .i64 a.x0)).setCell ⟨w.heap.size+1+1,3,none⟩ (.int .i64 a.y0)).setCell ⟨w.heap.size+1+1,4,none⟩ (.int .i64 a.x1)).setCell ⟨w.heap.size+1+1,5,none⟩ (.int .i64 a.y1)).setCell ⟨w.heap.size+1+1,6,none⟩ (.int .i64 a.b)).setCell ⟨w.heap.size+1+1,7,none⟩ (.int .i64 a.l)).setCell ⟨w.heap.size+1+1,8,none⟩ (.string (str a.key))).setCell ⟨w.heap.size+1+1,9,none⟩ (.slice vA vn vcap)) (w.heap.size+1+1) 57 (anC a (.slice vA vn vcap))∧Mod (fun b=>b=w.heap.size+1+1) w4 ((((((((((w4.setCell ⟨w.heap.size+1+1,0,none⟩ (.int .i64 a.code)).setCell ⟨w.heap.size+1+1,1,none⟩ (.int .i64 a.n)).setCell ⟨w.heap.size+1+1,2,none⟩ (.int .i64 a.x0)).setCell ⟨w.heap.size+1+1,3,none⟩ (.int .i64 a.y0)).setCell ⟨w.heap.size+1+1,4,none⟩ (.int .i64 a.x1)).setCell ⟨w.heap.size+1+1,5,none⟩ (.int .i64 a.y1)).setCell ⟨w.heap.size+1+1,6,none⟩ (.int .i64 a.b)).setCell ⟨w.heap.size+1+1,7,none⟩ (.int .i64 a.l)).setCell ⟨w.heap.size+1+1,8,none⟩ (.string (str a.key))).setCell ⟨w.heap.size+1+1,9,none⟩ (.slice vA vn vcap)):=an_stored HN4.out a (.slice vA vn vcap)
 obtain ⟨hbk,hmd⟩:=hbm
 generalize hWW:World.setCell _ _ _=WW at hbk hmd ⊢
 have k0:WW.cell? ⟨w.heap.size+1+1,0,none⟩=some (.int .i64 a.code):=hbk.cellS rfl
 have k1:WW.cell? ⟨w.heap.size+1+1,1,none⟩=some (.int .i64 a.n):=hbk.cellS rfl
 have k2:WW.cell? ⟨w.heap.size+1+1,2,none⟩=some (.int .i64 a.x0):=hbk.cellS rfl
 have k3:WW.cell? ⟨w.heap.size+1+1,3,none⟩=some (.int .i64 a.y0):=hbk.cellS rfl
 have k4:WW.cell? ⟨w.heap.size+1+1,4,none⟩=some (.int .i64 a.x1):=hbk.cellS rfl
 have k5:WW.cell? ⟨w.heap.size+1+1,5,none⟩=some (.int .i64 a.y1):=hbk.cellS rfl
 have k6:WW.cell? ⟨w.heap.size+1+1,6,none⟩=some (.int .i64 a.b):=hbk.cellS rfl
 have k7:WW.cell? ⟨w.heap.size+1+1,7,none⟩=some (.int .i64 a.l):=hbk.cellS rfl
 have k8:WW.cell? ⟨w.heap.size+1+1,8,none⟩=some (.string (str a.key)):=hbk.cellS rfl
 have k9:WW.cell? ⟨w.heap.size+1+1,9,none⟩=some (.slice vA vn vcap):=hbk.cellS rfl
 clear hWW hbk
 refine bodyPost_ret (v:= .tuple #[ansV a (.slice vA vn vcap),.int .i64 x]) (by simp [results,Tryz.results47,go_sem,ansV,An.zero,k0,k1,k2,k3,k4,k5,k6,k7,k8,k9,str]) rfl ?_
 exact HFN.out _ hmd
set_option maxRecDepth 100000 in
set_option maxHeartbeats 12800000 in
theorem try_count (w:World) (h p:Nat) (R:ArR) (H:HS) (t:Nat) (d:Int) (wv kv:Value) (HH:Hl w h p R H.S H.A t d H.Ws wv H.ser H.K kv) (q:SReq) (qA:Option Addr) (qn qcap:Nat) (hn:q.name.length≤4294967296) (hv:q.verb=5):
 Calls Tryz.prog 47 #[.pointer (some ⟨h,0,none⟩),reqV q (.slice qA qn qcap)] w (TryP w h p R H t d wv kv (ReadF H q) (ReadG H q)):=by
 have HL:=Lib.hid HH
 have hv1:(q.verb==1)=false:=by simp [hv]
 have hv2:(q.verb==2)=false:=by simp [hv]
 have hv3:(q.verb==3)=false:=by simp [hv]
 have hv5:(q.verb==5)=true:=by simp [hv]
 have HCT:=Lib.hid (fun (w1:World) (h1:Hl w1 h p R H.S H.A t d H.Ws wv H.ser H.K kv)=>read_any w1 h p R H t d wv kv h1 q qA qn qcap hn (.inr (.inl hv)))
 clear HH hv
 try unfold reqV at HCT
 unfold reqV
 go_enter Tryz.func47,Tryz.ntmps47
 go_wp2_with fail
 generalize hw0:World.alloc (World.alloc (World.alloc w _) _) _=w0
 obtain ⟨s1,q0,n0,s0,hh0,s00⟩:=slots3 w h q (.slice qA qn qcap) (w0:=w0) hw0
 have HSL:=Lib.hid s1
 have HN0:=Lib.hid n0
 have HQ0:=Lib.hid q0
 have HL0:=Lib.hid (HL.out.below s1.bel)
 clear hw0 q0 n0 s0 hh0 s00 s1
 (with_reducible refine (HCT.out _ HL0.out).mono ?_)
 intro e w4 hq
 obtain ⟨a,vA,vn,vcap,x,rfl,hbk,hfin⟩:=try_pass HSL.out HL.out HN0.out hq (fun _ _ g=>g) (fun _ _ g=>g)
 have HN4:=Lib.hid hbk
 have HFN:=Lib.hid hfin
 clear hbk hfin hq
 unfold ansV
 have zb:=HN4.out
 have z0:w4.cell? ⟨w.heap.size+1+1,0,none⟩=some (.int .i64 0):=zb.cellS rfl
 have z1:w4.cell? ⟨w.heap.size+1+1,1,none⟩=some (.int .i64 0):=zb.cellS rfl
 have z2:w4.cell? ⟨w.heap.size+1+1,2,none⟩=some (.int .i64 0):=zb.cellS rfl
 have z3:w4.cell? ⟨w.heap.size+1+1,3,none⟩=some (.int .i64 0):=zb.cellS rfl
 have z4:w4.cell? ⟨w.heap.size+1+1,4,none⟩=some (.int .i64 0):=zb.cellS rfl
 have z5:w4.cell? ⟨w.heap.size+1+1,5,none⟩=some (.int .i64 0):=zb.cellS rfl
 have z6:w4.cell? ⟨w.heap.size+1+1,6,none⟩=some (.int .i64 0):=zb.cellS rfl
 have z7:w4.cell? ⟨w.heap.size+1+1,7,none⟩=some (.int .i64 0):=zb.cellS rfl
 have z8:w4.cell? ⟨w.heap.size+1+1,8,none⟩=some (.string ⟨#[]⟩):=zb.cellS rfl
 have z9:w4.cell? ⟨w.heap.size+1+1,9,none⟩=some (.slice none 0 0):=zb.cellS rfl
 have zf0:=zb.frozen 0
 have zf1:=zb.frozen 1
 have zf2:=zb.frozen 2
 have zf3:=zb.frozen 3
 have zf4:=zb.frozen 4
 have zf5:=zb.frozen 5
 have zf6:=zb.frozen 6
 have zf7:=zb.frozen 7
 have zf8:=zb.frozen 8
 have zf9:=zb.frozen 9
 go_wp2_with fail
 have hbm:Blk ((((((((((w4.setCell ⟨w.heap.size+1+1,0,none⟩ (.int .i64 a.code)).setCell ⟨w.heap.size+1+1,1,none⟩ (.int .i64 a.n)).setCell ⟨w.heap.size+1+1,2,none⟩ (.int .i64 a.x0)).setCell ⟨w.heap.size+1+1,3,none⟩ (.int .i64 a.y0)).setCell ⟨w.heap.size+1+1,4,none⟩ (.int .i64 a.x1)).setCell ⟨w.heap.size+1+1,5,none⟩ (.int .i64 a.y1)).setCell ⟨w.heap.size+1+1,6,none⟩ (.int .i64 a.b)).setCell ⟨w.heap.size+1+1,7,none⟩ (.int .i64 a.l)).setCell ⟨w.heap.size+1+1,8,none⟩ (.string (str a.key))).setCell ⟨w.heap.size+1+1,9,none⟩ (.slice vA vn vcap)) (w.heap.size+1+1) 57 (anC a (.slice vA vn vcap))∧Mod (fun b=>b=w.heap.size+1+1) w4 ((((((((((w4.setCell ⟨w.heap.size+1+1,0,none⟩ (.int .i64 a.code)).setCell ⟨w.heap.size+1+1,1,none⟩ (.int .i64 a.n)).setCell ⟨w.heap.size+1+1,2,none⟩ (.int .i64 a.x0)).setCell ⟨w.heap.size+1+1,3,none⟩ (.int .i64 a.y0)).setCell ⟨w.heap.size+1+1,4,none⟩ (.int .i64 a.x1)).setCell ⟨w.heap.size+1+1,5,none⟩ (.int .i64 a.y1)).setCell ⟨w.heap.size+1+1,6,none⟩ (.int .i64 a.b)).setCell ⟨w.heap.size+1+1,7,none⟩ (.int .i64 a.l)).setCell ⟨w.heap.size+1+1,8,none⟩ (.string (str a.key))).setCell ⟨w.heap.size+1+1,9,none⟩ (.slice vA vn vcap)):=an_stored HN4.out a (.slice vA vn vcap)
 obtain ⟨hbk,hmd⟩:=hbm
 generalize hWW:World.setCell _ _ _=WW at hbk hmd ⊢
 have k0:WW.cell? ⟨w.heap.size+1+1,0,none⟩=some (.int .i64 a.code):=hbk.cellS rfl
 have k1:WW.cell? ⟨w.heap.size+1+1,1,none⟩=some (.int .i64 a.n):=hbk.cellS rfl
 have k2:WW.cell? ⟨w.heap.size+1+1,2,none⟩=some (.int .i64 a.x0):=hbk.cellS rfl
 have k3:WW.cell? ⟨w.heap.size+1+1,3,none⟩=some (.int .i64 a.y0):=hbk.cellS rfl
 have k4:WW.cell? ⟨w.heap.size+1+1,4,none⟩=some (.int .i64 a.x1):=hbk.cellS rfl
 have k5:WW.cell? ⟨w.heap.size+1+1,5,none⟩=some (.int .i64 a.y1):=hbk.cellS rfl
 have k6:WW.cell? ⟨w.heap.size+1+1,6,none⟩=some (.int .i64 a.b):=hbk.cellS rfl
 have k7:WW.cell? ⟨w.heap.size+1+1,7,none⟩=some (.int .i64 a.l):=hbk.cellS rfl
 have k8:WW.cell? ⟨w.heap.size+1+1,8,none⟩=some (.string (str a.key)):=hbk.cellS rfl
 have k9:WW.cell? ⟨w.heap.size+1+1,9,none⟩=some (.slice vA vn vcap):=hbk.cellS rfl
 clear hWW hbk
 refine bodyPost_ret (v:= .tuple #[ansV a (.slice vA vn vcap),.int .i64 x]) (by simp [results,Tryz.results47,go_sem,ansV,An.zero,k0,k1,k2,k3,k4,k5,k6,k7,k8,k9,str]) rfl ?_
 exact HFN.out _ hmd
set_option maxRecDepth 100000 in
set_option maxHeartbeats 12800000 in
theorem try_box (w:World) (h p:Nat) (R:ArR) (H:HS) (t:Nat) (d:Int) (wv kv:Value) (HH:Hl w h p R H.S H.A t d H.Ws wv H.ser H.K kv) (q:SReq) (qA:Option Addr) (qn qcap:Nat) (hn:q.name.length≤4294967296) (hv:q.verb=6):
 Calls Tryz.prog 47 #[.pointer (some ⟨h,0,none⟩),reqV q (.slice qA qn qcap)] w (TryP w h p R H t d wv kv (ReadF H q) (ReadG H q)):=by
 have HL:=Lib.hid HH
 have hv1:(q.verb==1)=false:=by simp [hv]
 have hv2:(q.verb==2)=false:=by simp [hv]
 have hv3:(q.verb==3)=false:=by simp [hv]
 have hv5:(q.verb==5)=false:=by simp [hv]
 have hv6:(q.verb==6)=true:=by simp [hv]
 have HCT:=Lib.hid (fun (w1:World) (h1:Hl w1 h p R H.S H.A t d H.Ws wv H.ser H.K kv)=>read_any w1 h p R H t d wv kv h1 q qA qn qcap hn (.inr (.inr hv)))
 clear HH hv
 try unfold reqV at HCT
 unfold reqV
 go_enter Tryz.func47,Tryz.ntmps47
 go_wp2_with fail
 generalize hw0:World.alloc (World.alloc (World.alloc w _) _) _=w0
 obtain ⟨s1,q0,n0,s0,hh0,s00⟩:=slots3 w h q (.slice qA qn qcap) (w0:=w0) hw0
 have HSL:=Lib.hid s1
 have HN0:=Lib.hid n0
 have HQ0:=Lib.hid q0
 have HL0:=Lib.hid (HL.out.below s1.bel)
 clear hw0 q0 n0 s0 hh0 s00 s1
 (with_reducible refine (HCT.out _ HL0.out).mono ?_)
 intro e w4 hq
 obtain ⟨a,vA,vn,vcap,x,rfl,hbk,hfin⟩:=try_pass HSL.out HL.out HN0.out hq (fun _ _ g=>g) (fun _ _ g=>g)
 have HN4:=Lib.hid hbk
 have HFN:=Lib.hid hfin
 clear hbk hfin hq
 unfold ansV
 have zb:=HN4.out
 have z0:w4.cell? ⟨w.heap.size+1+1,0,none⟩=some (.int .i64 0):=zb.cellS rfl
 have z1:w4.cell? ⟨w.heap.size+1+1,1,none⟩=some (.int .i64 0):=zb.cellS rfl
 have z2:w4.cell? ⟨w.heap.size+1+1,2,none⟩=some (.int .i64 0):=zb.cellS rfl
 have z3:w4.cell? ⟨w.heap.size+1+1,3,none⟩=some (.int .i64 0):=zb.cellS rfl
 have z4:w4.cell? ⟨w.heap.size+1+1,4,none⟩=some (.int .i64 0):=zb.cellS rfl
 have z5:w4.cell? ⟨w.heap.size+1+1,5,none⟩=some (.int .i64 0):=zb.cellS rfl
 have z6:w4.cell? ⟨w.heap.size+1+1,6,none⟩=some (.int .i64 0):=zb.cellS rfl
 have z7:w4.cell? ⟨w.heap.size+1+1,7,none⟩=some (.int .i64 0):=zb.cellS rfl
 have z8:w4.cell? ⟨w.heap.size+1+1,8,none⟩=some (.string ⟨#[]⟩):=zb.cellS rfl
 have z9:w4.cell? ⟨w.heap.size+1+1,9,none⟩=some (.slice none 0 0):=zb.cellS rfl
 have zf0:=zb.frozen 0
 have zf1:=zb.frozen 1
 have zf2:=zb.frozen 2
 have zf3:=zb.frozen 3
 have zf4:=zb.frozen 4
 have zf5:=zb.frozen 5
 have zf6:=zb.frozen 6
 have zf7:=zb.frozen 7
 have zf8:=zb.frozen 8
 have zf9:=zb.frozen 9
 go_wp2_with fail
 have hbm:Blk ((((((((((w4.setCell ⟨w.heap.size+1+1,0,none⟩ (.int .i64 a.code)).setCell ⟨w.heap.size+1+1,1,none⟩ (.int .i64 a.n)).setCell ⟨w.heap.size+1+1,2,none⟩ (.int .i64 a.x0)).setCell ⟨w.heap.size+1+1,3,none⟩ (.int .i64 a.y0)).setCell ⟨w.heap.size+1+1,4,none⟩ (.int .i64 a.x1)).setCell ⟨w.heap.size+1+1,5,none⟩ (.int .i64 a.y1)).setCell ⟨w.heap.size+1+1,6,none⟩ (.int .i64 a.b)).setCell ⟨w.heap.size+1+1,7,none⟩ (.int .i64 a.l)).setCell ⟨w.heap.size+1+1,8,none⟩ (.string (str a.key))).setCell ⟨w.heap.size+1+1,9,none⟩ (.slice vA vn vcap)) (w.heap.size+1+1) 57 (anC a (.slice vA vn vcap))∧Mod (fun b=>b=w.heap.size+1+1) w4 ((((((((((w4.setCell ⟨w.heap.size+1+1,0,none⟩ (.int .i64 a.code)).setCell ⟨w.heap.size+1+1,1,none⟩ (.int .i64 a.n)).setCell ⟨w.heap.size+1+1,2,none⟩ (.int .i64 a.x0)).setCell ⟨w.heap.size+1+1,3,none⟩ (.int .i64 a.y0)).setCell ⟨w.heap.size+1+1,4,none⟩ (.int .i64 a.x1)).setCell ⟨w.heap.size+1+1,5,none⟩ (.int .i64 a.y1)).setCell ⟨w.heap.size+1+1,6,none⟩ (.int .i64 a.b)).setCell ⟨w.heap.size+1+1,7,none⟩ (.int .i64 a.l)).setCell ⟨w.heap.size+1+1,8,none⟩ (.string (str a.key))).setCell ⟨w.heap.size+1+1,9,none⟩ (.slice vA vn vcap)):=an_stored HN4.out a (.slice vA vn vcap)
 obtain ⟨hbk,hmd⟩:=hbm
 generalize hWW:World.setCell _ _ _=WW at hbk hmd ⊢
 have k0:WW.cell? ⟨w.heap.size+1+1,0,none⟩=some (.int .i64 a.code):=hbk.cellS rfl
 have k1:WW.cell? ⟨w.heap.size+1+1,1,none⟩=some (.int .i64 a.n):=hbk.cellS rfl
 have k2:WW.cell? ⟨w.heap.size+1+1,2,none⟩=some (.int .i64 a.x0):=hbk.cellS rfl
 have k3:WW.cell? ⟨w.heap.size+1+1,3,none⟩=some (.int .i64 a.y0):=hbk.cellS rfl
 have k4:WW.cell? ⟨w.heap.size+1+1,4,none⟩=some (.int .i64 a.x1):=hbk.cellS rfl
 have k5:WW.cell? ⟨w.heap.size+1+1,5,none⟩=some (.int .i64 a.y1):=hbk.cellS rfl
 have k6:WW.cell? ⟨w.heap.size+1+1,6,none⟩=some (.int .i64 a.b):=hbk.cellS rfl
 have k7:WW.cell? ⟨w.heap.size+1+1,7,none⟩=some (.int .i64 a.l):=hbk.cellS rfl
 have k8:WW.cell? ⟨w.heap.size+1+1,8,none⟩=some (.string (str a.key)):=hbk.cellS rfl
 have k9:WW.cell? ⟨w.heap.size+1+1,9,none⟩=some (.slice vA vn vcap):=hbk.cellS rfl
 clear hWW hbk
 refine bodyPost_ret (v:= .tuple #[ansV a (.slice vA vn vcap),.int .i64 x]) (by simp [results,Tryz.results47,go_sem,ansV,An.zero,k0,k1,k2,k3,k4,k5,k6,k7,k8,k9,str]) rfl ?_
 exact HFN.out _ hmd
set_option maxRecDepth 100000 in
set_option maxHeartbeats 12800000 in
theorem try_step (w:World) (h p:Nat) (R:ArR) (H:HS) (t:Nat) (d:Int) (wv kv:Value) (HH:Hl w h p R H.S H.A t d H.Ws wv H.ser H.K kv) (q:SReq) (qA:Option Addr) (qn qcap:Nat) (hn:q.name.length≤4294967296) (hv:q.verb=4):
 Calls Tryz.prog 47 #[.pointer (some ⟨h,0,none⟩),reqV q (.slice qA qn qcap)] w (TryP w h p R H t d wv kv (StepF H q t) (StepG H q t)):=by
 have HL:=Lib.hid HH
 have hv1:(q.verb==1)=false:=by simp [hv]
 have hv2:(q.verb==2)=false:=by simp [hv]
 have hv3:(q.verb==3)=false:=by simp [hv]
 have hv5:(q.verb==5)=false:=by simp [hv]
 have hv6:(q.verb==6)=false:=by simp [hv]
 have hv4:(q.verb==4)=true:=by simp [hv]
 have HCT:=Lib.hid (fun (w1:World) (h1:Hl w1 h p R H.S H.A t d H.Ws wv H.ser H.K kv)=>step_any w1 h p R H t d wv kv h1 q qA qn qcap hn)
 clear HH hv
 try unfold reqV at HCT
 unfold reqV
 go_enter Tryz.func47,Tryz.ntmps47
 go_wp2_with fail
 generalize hw0:World.alloc (World.alloc (World.alloc w _) _) _=w0
 obtain ⟨s1,q0,n0,s0,hh0,s00⟩:=slots3 w h q (.slice qA qn qcap) (w0:=w0) hw0
 have HSL:=Lib.hid s1
 have HN0:=Lib.hid n0
 have HQ0:=Lib.hid q0
 have HL0:=Lib.hid (HL.out.below s1.bel)
 clear hw0 q0 n0 s0 hh0 s00 s1
 (with_reducible refine (HCT.out _ HL0.out).mono ?_)
 intro e w4 hq
 obtain ⟨a,vA,vn,vcap,x,rfl,hbk,hfin⟩:=try_pass HSL.out HL.out HN0.out hq (fun _ _ g=>g) (fun _ _ g=>g)
 have HN4:=Lib.hid hbk
 have HFN:=Lib.hid hfin
 clear hbk hfin hq
 unfold ansV
 have zb:=HN4.out
 have z0:w4.cell? ⟨w.heap.size+1+1,0,none⟩=some (.int .i64 0):=zb.cellS rfl
 have z1:w4.cell? ⟨w.heap.size+1+1,1,none⟩=some (.int .i64 0):=zb.cellS rfl
 have z2:w4.cell? ⟨w.heap.size+1+1,2,none⟩=some (.int .i64 0):=zb.cellS rfl
 have z3:w4.cell? ⟨w.heap.size+1+1,3,none⟩=some (.int .i64 0):=zb.cellS rfl
 have z4:w4.cell? ⟨w.heap.size+1+1,4,none⟩=some (.int .i64 0):=zb.cellS rfl
 have z5:w4.cell? ⟨w.heap.size+1+1,5,none⟩=some (.int .i64 0):=zb.cellS rfl
 have z6:w4.cell? ⟨w.heap.size+1+1,6,none⟩=some (.int .i64 0):=zb.cellS rfl
 have z7:w4.cell? ⟨w.heap.size+1+1,7,none⟩=some (.int .i64 0):=zb.cellS rfl
 have z8:w4.cell? ⟨w.heap.size+1+1,8,none⟩=some (.string ⟨#[]⟩):=zb.cellS rfl
 have z9:w4.cell? ⟨w.heap.size+1+1,9,none⟩=some (.slice none 0 0):=zb.cellS rfl
 have zf0:=zb.frozen 0
 have zf1:=zb.frozen 1
 have zf2:=zb.frozen 2
 have zf3:=zb.frozen 3
 have zf4:=zb.frozen 4
 have zf5:=zb.frozen 5
 have zf6:=zb.frozen 6
 have zf7:=zb.frozen 7
 have zf8:=zb.frozen 8
 have zf9:=zb.frozen 9
 go_wp2_with fail
 have hbm:Blk ((((((((((w4.setCell ⟨w.heap.size+1+1,0,none⟩ (.int .i64 a.code)).setCell ⟨w.heap.size+1+1,1,none⟩ (.int .i64 a.n)).setCell ⟨w.heap.size+1+1,2,none⟩ (.int .i64 a.x0)).setCell ⟨w.heap.size+1+1,3,none⟩ (.int .i64 a.y0)).setCell ⟨w.heap.size+1+1,4,none⟩ (.int .i64 a.x1)).setCell ⟨w.heap.size+1+1,5,none⟩ (.int .i64 a.y1)).setCell ⟨w.heap.size+1+1,6,none⟩ (.int .i64 a.b)).setCell ⟨w.heap.size+1+1,7,none⟩ (.int .i64 a.l)).setCell ⟨w.heap.size+1+1,8,none⟩ (.string (str a.key))).setCell ⟨w.heap.size+1+1,9,none⟩ (.slice vA vn vcap)) (w.heap.size+1+1) 57 (anC a (.slice vA vn vcap))∧Mod (fun b=>b=w.heap.size+1+1) w4 ((((((((((w4.setCell ⟨w.heap.size+1+1,0,none⟩ (.int .i64 a.code)).setCell ⟨w.heap.size+1+1,1,none⟩ (.int .i64 a.n)).setCell ⟨w.heap.size+1+1,2,none⟩ (.int .i64 a.x0)).setCell ⟨w.heap.size+1+1,3,none⟩ (.int .i64 a.y0)).setCell ⟨w.heap.size+1+1,4,none⟩ (.int .i64 a.x1)).setCell ⟨w.heap.size+1+1,5,none⟩ (.int .i64 a.y1)).setCell ⟨w.heap.size+1+1,6,none⟩ (.int .i64 a.b)).setCell ⟨w.heap.size+1+1,7,none⟩ (.int .i64 a.l)).setCell ⟨w.heap.size+1+1,8,none⟩ (.string (str a.key))).setCell ⟨w.heap.size+1+1,9,none⟩ (.slice vA vn vcap)):=an_stored HN4.out a (.slice vA vn vcap)
 obtain ⟨hbk,hmd⟩:=hbm
 generalize hWW:World.setCell _ _ _=WW at hbk hmd ⊢
 have k0:WW.cell? ⟨w.heap.size+1+1,0,none⟩=some (.int .i64 a.code):=hbk.cellS rfl
 have k1:WW.cell? ⟨w.heap.size+1+1,1,none⟩=some (.int .i64 a.n):=hbk.cellS rfl
 have k2:WW.cell? ⟨w.heap.size+1+1,2,none⟩=some (.int .i64 a.x0):=hbk.cellS rfl
 have k3:WW.cell? ⟨w.heap.size+1+1,3,none⟩=some (.int .i64 a.y0):=hbk.cellS rfl
 have k4:WW.cell? ⟨w.heap.size+1+1,4,none⟩=some (.int .i64 a.x1):=hbk.cellS rfl
 have k5:WW.cell? ⟨w.heap.size+1+1,5,none⟩=some (.int .i64 a.y1):=hbk.cellS rfl
 have k6:WW.cell? ⟨w.heap.size+1+1,6,none⟩=some (.int .i64 a.b):=hbk.cellS rfl
 have k7:WW.cell? ⟨w.heap.size+1+1,7,none⟩=some (.int .i64 a.l):=hbk.cellS rfl
 have k8:WW.cell? ⟨w.heap.size+1+1,8,none⟩=some (.string (str a.key)):=hbk.cellS rfl
 have k9:WW.cell? ⟨w.heap.size+1+1,9,none⟩=some (.slice vA vn vcap):=hbk.cellS rfl
 clear hWW hbk
 refine bodyPost_ret (v:= .tuple #[ansV a (.slice vA vn vcap),.int .i64 x]) (by simp [results,Tryz.results47,go_sem,ansV,An.zero,k0,k1,k2,k3,k4,k5,k6,k7,k8,k9,str]) rfl ?_
 exact HFN.out _ hmd
set_option maxRecDepth 100000 in
set_option maxHeartbeats 12800000 in
theorem try_drop (w:World) (h p:Nat) (R:ArR) (H:HS) (t:Nat) (d:Int) (wv kv:Value) (HH:Hl w h p R H.S H.A t d H.Ws wv H.ser H.K kv) (q:SReq) (qA:Option Addr) (qn qcap:Nat) (hv:q.verb=7):
 Calls Tryz.prog 47 #[.pointer (some ⟨h,0,none⟩),reqV q (.slice qA qn qcap)] w (TryP w h p R H t d wv kv (DropF H q.name) (DropG H q.name)):=by
 have HL:=Lib.hid HH
 have hv1:(q.verb==1)=false:=by simp [hv]
 have hv2:(q.verb==2)=false:=by simp [hv]
 have hv3:(q.verb==3)=false:=by simp [hv]
 have hv5:(q.verb==5)=false:=by simp [hv]
 have hv6:(q.verb==6)=false:=by simp [hv]
 have hv4:(q.verb==4)=false:=by simp [hv]
 have hv7:(q.verb==7)=true:=by simp [hv]
 have HCT:=Lib.hid (fun (w1:World) (h1:Hl w1 h p R H.S H.A t d H.Ws wv H.ser H.K kv)=>drop_any w1 h p R H t d wv kv h1 q.name)
 clear HH hv
 try unfold reqV at HCT
 unfold reqV
 go_enter Tryz.func47,Tryz.ntmps47
 go_wp2_with fail
 generalize hw0:World.alloc (World.alloc (World.alloc w _) _) _=w0
 obtain ⟨s1,q0,n0,s0,hh0,s00⟩:=slots3 w h q (.slice qA qn qcap) (w0:=w0) hw0
 have HSL:=Lib.hid s1
 have HN0:=Lib.hid n0
 have HQ0:=Lib.hid q0
 have HL0:=Lib.hid (HL.out.below s1.bel)
 clear hw0 q0 n0 s0 hh0 s00 s1
 (with_reducible refine (HCT.out _ HL0.out).mono ?_)
 intro e w4 hq
 obtain ⟨a,vA,vn,vcap,x,rfl,hbk,hfin⟩:=try_pass HSL.out HL.out HN0.out hq (fun _ _ g=>g) (fun _ _ g=>g)
 have HN4:=Lib.hid hbk
 have HFN:=Lib.hid hfin
 clear hbk hfin hq
 unfold ansV
 have zb:=HN4.out
 have z0:w4.cell? ⟨w.heap.size+1+1,0,none⟩=some (.int .i64 0):=zb.cellS rfl
 have z1:w4.cell? ⟨w.heap.size+1+1,1,none⟩=some (.int .i64 0):=zb.cellS rfl
 have z2:w4.cell? ⟨w.heap.size+1+1,2,none⟩=some (.int .i64 0):=zb.cellS rfl
 have z3:w4.cell? ⟨w.heap.size+1+1,3,none⟩=some (.int .i64 0):=zb.cellS rfl
 have z4:w4.cell? ⟨w.heap.size+1+1,4,none⟩=some (.int .i64 0):=zb.cellS rfl
 have z5:w4.cell? ⟨w.heap.size+1+1,5,none⟩=some (.int .i64 0):=zb.cellS rfl
 have z6:w4.cell? ⟨w.heap.size+1+1,6,none⟩=some (.int .i64 0):=zb.cellS rfl
 have z7:w4.cell? ⟨w.heap.size+1+1,7,none⟩=some (.int .i64 0):=zb.cellS rfl
 have z8:w4.cell? ⟨w.heap.size+1+1,8,none⟩=some (.string ⟨#[]⟩):=zb.cellS rfl
 have z9:w4.cell? ⟨w.heap.size+1+1,9,none⟩=some (.slice none 0 0):=zb.cellS rfl
 have zf0:=zb.frozen 0
 have zf1:=zb.frozen 1
 have zf2:=zb.frozen 2
 have zf3:=zb.frozen 3
 have zf4:=zb.frozen 4
 have zf5:=zb.frozen 5
 have zf6:=zb.frozen 6
 have zf7:=zb.frozen 7
 have zf8:=zb.frozen 8
 have zf9:=zb.frozen 9
 go_wp2_with fail
 have hbm:Blk ((((((((((w4.setCell ⟨w.heap.size+1+1,0,none⟩ (.int .i64 a.code)).setCell ⟨w.heap.size+1+1,1,none⟩ (.int .i64 a.n)).setCell ⟨w.heap.size+1+1,2,none⟩ (.int .i64 a.x0)).setCell ⟨w.heap.size+1+1,3,none⟩ (.int .i64 a.y0)).setCell ⟨w.heap.size+1+1,4,none⟩ (.int .i64 a.x1)).setCell ⟨w.heap.size+1+1,5,none⟩ (.int .i64 a.y1)).setCell ⟨w.heap.size+1+1,6,none⟩ (.int .i64 a.b)).setCell ⟨w.heap.size+1+1,7,none⟩ (.int .i64 a.l)).setCell ⟨w.heap.size+1+1,8,none⟩ (.string (str a.key))).setCell ⟨w.heap.size+1+1,9,none⟩ (.slice vA vn vcap)) (w.heap.size+1+1) 57 (anC a (.slice vA vn vcap))∧Mod (fun b=>b=w.heap.size+1+1) w4 ((((((((((w4.setCell ⟨w.heap.size+1+1,0,none⟩ (.int .i64 a.code)).setCell ⟨w.heap.size+1+1,1,none⟩ (.int .i64 a.n)).setCell ⟨w.heap.size+1+1,2,none⟩ (.int .i64 a.x0)).setCell ⟨w.heap.size+1+1,3,none⟩ (.int .i64 a.y0)).setCell ⟨w.heap.size+1+1,4,none⟩ (.int .i64 a.x1)).setCell ⟨w.heap.size+1+1,5,none⟩ (.int .i64 a.y1)).setCell ⟨w.heap.size+1+1,6,none⟩ (.int .i64 a.b)).setCell ⟨w.heap.size+1+1,7,none⟩ (.int .i64 a.l)).setCell ⟨w.heap.size+1+1,8,none⟩ (.string (str a.key))).setCell ⟨w.heap.size+1+1,9,none⟩ (.slice vA vn vcap)):=an_stored HN4.out a (.slice vA vn vcap)
 obtain ⟨hbk,hmd⟩:=hbm
 generalize hWW:World.setCell _ _ _=WW at hbk hmd ⊢
 have k0:WW.cell? ⟨w.heap.size+1+1,0,none⟩=some (.int .i64 a.code):=hbk.cellS rfl
 have k1:WW.cell? ⟨w.heap.size+1+1,1,none⟩=some (.int .i64 a.n):=hbk.cellS rfl
 have k2:WW.cell? ⟨w.heap.size+1+1,2,none⟩=some (.int .i64 a.x0):=hbk.cellS rfl
 have k3:WW.cell? ⟨w.heap.size+1+1,3,none⟩=some (.int .i64 a.y0):=hbk.cellS rfl
 have k4:WW.cell? ⟨w.heap.size+1+1,4,none⟩=some (.int .i64 a.x1):=hbk.cellS rfl
 have k5:WW.cell? ⟨w.heap.size+1+1,5,none⟩=some (.int .i64 a.y1):=hbk.cellS rfl
 have k6:WW.cell? ⟨w.heap.size+1+1,6,none⟩=some (.int .i64 a.b):=hbk.cellS rfl
 have k7:WW.cell? ⟨w.heap.size+1+1,7,none⟩=some (.int .i64 a.l):=hbk.cellS rfl
 have k8:WW.cell? ⟨w.heap.size+1+1,8,none⟩=some (.string (str a.key)):=hbk.cellS rfl
 have k9:WW.cell? ⟨w.heap.size+1+1,9,none⟩=some (.slice vA vn vcap):=hbk.cellS rfl
 clear hWW hbk
 refine bodyPost_ret (v:= .tuple #[ansV a (.slice vA vn vcap),.int .i64 x]) (by simp [results,Tryz.results47,go_sem,ansV,An.zero,k0,k1,k2,k3,k4,k5,k6,k7,k8,k9,str]) rfl ?_
 exact HFN.out _ hmd
set_option maxRecDepth 100000 in
set_option maxHeartbeats 12800000 in
theorem try_lease (w:World) (h p:Nat) (R:ArR) (H:HS) (t:Nat) (d:Int) (wv kv:Value) (HH:Hl w h p R H.S H.A t d H.Ws wv H.ser H.K kv) (q:SReq) (qA:Option Addr) (qn qcap:Nat) (hn:q.name.length≤4294967296) (hser:H.ser<100) (g:w.cell? ⟨4,15,none⟩=some (.int .u8 4)) (hv:q.verb=9):
 Calls Tryz.prog 47 #[.pointer (some ⟨h,0,none⟩),reqV q (.slice qA qn qcap)] w (TryP w h p R H t d wv kv (LeaseF H q) (LeaseG H q d)):=by
 have HL:=Lib.hid HH
 have hv1:(q.verb==1)=false:=by simp [hv]
 have hv2:(q.verb==2)=false:=by simp [hv]
 have hv3:(q.verb==3)=false:=by simp [hv]
 have hv5:(q.verb==5)=false:=by simp [hv]
 have hv6:(q.verb==6)=false:=by simp [hv]
 have hv4:(q.verb==4)=false:=by simp [hv]
 have hv7:(q.verb==7)=false:=by simp [hv]
 have hv8:(q.verb==8)=false:=by simp [hv]
 have hv9:(q.verb==9)=true:=by simp [hv]
 have HG:=Lib.hid g
 have HCT:=Lib.hid (fun (w1:World) (h1:Hl w1 h p R H.S H.A t d H.Ws wv H.ser H.K kv) (h2:w1.cell? ⟨4,15,none⟩=some (.int .u8 4))=>lease_any w1 h p R H t d wv kv h1 q qA qn qcap hn hser h2)
 clear g
 clear HH hv
 try unfold reqV at HCT
 unfold reqV
 go_enter Tryz.func47,Tryz.ntmps47
 go_wp2_with fail
 generalize hw0:World.alloc (World.alloc (World.alloc w _) _) _=w0
 obtain ⟨s1,q0,n0,s0,hh0,s00⟩:=slots3 w h q (.slice qA qn qcap) (w0:=w0) hw0
 have HSL:=Lib.hid s1
 have HN0:=Lib.hid n0
 have HQ0:=Lib.hid q0
 have HL0:=Lib.hid (HL.out.below s1.bel)
 clear hw0 q0 n0 s0 hh0 s00 s1
 (with_reducible refine (HCT.out _ HL0.out ((HSL.out.bel.cell (p:=⟨4,15,none⟩) (World.block_lt_of_cell? w _ HG.out)).trans HG.out)).mono ?_)
 intro e w4 hq
 obtain ⟨a,vA,vn,vcap,x,rfl,hbk,hfin⟩:=try_pass HSL.out HL.out HN0.out hq (fun _ _ g=>g) (fun _ _ g=>g)
 have HN4:=Lib.hid hbk
 have HFN:=Lib.hid hfin
 clear hbk hfin hq
 unfold ansV
 have zb:=HN4.out
 have z0:w4.cell? ⟨w.heap.size+1+1,0,none⟩=some (.int .i64 0):=zb.cellS rfl
 have z1:w4.cell? ⟨w.heap.size+1+1,1,none⟩=some (.int .i64 0):=zb.cellS rfl
 have z2:w4.cell? ⟨w.heap.size+1+1,2,none⟩=some (.int .i64 0):=zb.cellS rfl
 have z3:w4.cell? ⟨w.heap.size+1+1,3,none⟩=some (.int .i64 0):=zb.cellS rfl
 have z4:w4.cell? ⟨w.heap.size+1+1,4,none⟩=some (.int .i64 0):=zb.cellS rfl
 have z5:w4.cell? ⟨w.heap.size+1+1,5,none⟩=some (.int .i64 0):=zb.cellS rfl
 have z6:w4.cell? ⟨w.heap.size+1+1,6,none⟩=some (.int .i64 0):=zb.cellS rfl
 have z7:w4.cell? ⟨w.heap.size+1+1,7,none⟩=some (.int .i64 0):=zb.cellS rfl
 have z8:w4.cell? ⟨w.heap.size+1+1,8,none⟩=some (.string ⟨#[]⟩):=zb.cellS rfl
 have z9:w4.cell? ⟨w.heap.size+1+1,9,none⟩=some (.slice none 0 0):=zb.cellS rfl
 have zf0:=zb.frozen 0
 have zf1:=zb.frozen 1
 have zf2:=zb.frozen 2
 have zf3:=zb.frozen 3
 have zf4:=zb.frozen 4
 have zf5:=zb.frozen 5
 have zf6:=zb.frozen 6
 have zf7:=zb.frozen 7
 have zf8:=zb.frozen 8
 have zf9:=zb.frozen 9
 go_wp2_with fail
 have hbm:Blk ((((((((((w4.setCell ⟨w.heap.size+1+1,0,none⟩ (.int .i64 a.code)).setCell ⟨w.heap.size+1+1,1,none⟩ (.int .i64 a.n)).setCell ⟨w.heap.size+1+1,2,none⟩ (.int .i64 a.x0)).setCell ⟨w.heap.size+1+1,3,none⟩ (.int .i64 a.y0)).setCell ⟨w.heap.size+1+1,4,none⟩ (.int .i64 a.x1)).setCell ⟨w.heap.size+1+1,5,none⟩ (.int .i64 a.y1)).setCell ⟨w.heap.size+1+1,6,none⟩ (.int .i64 a.b)).setCell ⟨w.heap.size+1+1,7,none⟩ (.int .i64 a.l)).setCell ⟨w.heap.size+1+1,8,none⟩ (.string (str a.key))).setCell ⟨w.heap.size+1+1,9,none⟩ (.slice vA vn vcap)) (w.heap.size+1+1) 57 (anC a (.slice vA vn vcap))∧Mod (fun b=>b=w.heap.size+1+1) w4 ((((((((((w4.setCell ⟨w.heap.size+1+1,0,none⟩ (.int .i64 a.code)).setCell ⟨w.heap.size+1+1,1,none⟩ (.int .i64 a.n)).setCell ⟨w.heap.size+1+1,2,none⟩ (.int .i64 a.x0)).setCell ⟨w.heap.size+1+1,3,none⟩ (.int .i64 a.y0)).setCell ⟨w.heap.size+1+1,4,none⟩ (.int .i64 a.x1)).setCell ⟨w.heap.size+1+1,5,none⟩ (.int .i64 a.y1)).setCell ⟨w.heap.size+1+1,6,none⟩ (.int .i64 a.b)).setCell ⟨w.heap.size+1+1,7,none⟩ (.int .i64 a.l)).setCell ⟨w.heap.size+1+1,8,none⟩ (.string (str a.key))).setCell ⟨w.heap.size+1+1,9,none⟩ (.slice vA vn vcap)):=an_stored HN4.out a (.slice vA vn vcap)
 obtain ⟨hbk,hmd⟩:=hbm
 generalize hWW:World.setCell _ _ _=WW at hbk hmd ⊢
 have k0:WW.cell? ⟨w.heap.size+1+1,0,none⟩=some (.int .i64 a.code):=hbk.cellS rfl
 have k1:WW.cell? ⟨w.heap.size+1+1,1,none⟩=some (.int .i64 a.n):=hbk.cellS rfl
 have k2:WW.cell? ⟨w.heap.size+1+1,2,none⟩=some (.int .i64 a.x0):=hbk.cellS rfl
 have k3:WW.cell? ⟨w.heap.size+1+1,3,none⟩=some (.int .i64 a.y0):=hbk.cellS rfl
 have k4:WW.cell? ⟨w.heap.size+1+1,4,none⟩=some (.int .i64 a.x1):=hbk.cellS rfl
 have k5:WW.cell? ⟨w.heap.size+1+1,5,none⟩=some (.int .i64 a.y1):=hbk.cellS rfl
 have k6:WW.cell? ⟨w.heap.size+1+1,6,none⟩=some (.int .i64 a.b):=hbk.cellS rfl
 have k7:WW.cell? ⟨w.heap.size+1+1,7,none⟩=some (.int .i64 a.l):=hbk.cellS rfl
 have k8:WW.cell? ⟨w.heap.size+1+1,8,none⟩=some (.string (str a.key)):=hbk.cellS rfl
 have k9:WW.cell? ⟨w.heap.size+1+1,9,none⟩=some (.slice vA vn vcap):=hbk.cellS rfl
 clear hWW hbk
 refine bodyPost_ret (v:= .tuple #[ansV a (.slice vA vn vcap),.int .i64 x]) (by simp [results,Tryz.results47,go_sem,ansV,An.zero,k0,k1,k2,k3,k4,k5,k6,k7,k8,k9,str]) rfl ?_
 exact HFN.out _ hmd
set_option maxRecDepth 100000 in
set_option maxHeartbeats 12800000 in
theorem try_else (w:World) (h p:Nat) (R:ArR) (H:HS) (t:Nat) (d:Int) (wv kv:Value) (HH:Hl w h p R H.S H.A t d H.Ws wv H.ser H.K kv) (q:SReq) (qA:Option Addr) (qn qcap:Nat) (hv:q.verb≠1∧q.verb≠2∧q.verb≠3∧q.verb≠4∧q.verb≠5∧q.verb≠6∧q.verb≠7∧q.verb≠8∧q.verb≠9∧q.verb≠10):
 Calls Tryz.prog 47 #[.pointer (some ⟨h,0,none⟩),reqV q (.slice qA qn qcap)] w (TryP w h p R H t d wv kv (ElseF H) (fun _ _=>False)):=by
 have HL:=Lib.hid HH
 obtain ⟨n1,n2,n3,n4,n5,n6,n7,n8,n9,n10⟩:=hv
 have hv1:(q.verb==1)=false:=beq_eq_false_iff_ne.2 n1
 have hv2:(q.verb==2)=false:=beq_eq_false_iff_ne.2 n2
 have hv3:(q.verb==3)=false:=beq_eq_false_iff_ne.2 n3
 have hv5:(q.verb==5)=false:=beq_eq_false_iff_ne.2 n5
 have hv6:(q.verb==6)=false:=beq_eq_false_iff_ne.2 n6
 have hv4:(q.verb==4)=false:=beq_eq_false_iff_ne.2 n4
 have hv7:(q.verb==7)=false:=beq_eq_false_iff_ne.2 n7
 have hv8:(q.verb==8)=false:=beq_eq_false_iff_ne.2 n8
 have hv9:(q.verb==9)=false:=beq_eq_false_iff_ne.2 n9
 have hv10:(q.verb==10)=false:=beq_eq_false_iff_ne.2 n10
 clear HH n1 n2 n3 n4 n5 n6 n7 n8 n9 n10
 unfold reqV
 go_enter Tryz.func47,Tryz.ntmps47
 go_upto_region 1 with fail
 generalize hw0:World.alloc (World.alloc (World.alloc w _) _) _=w0
 obtain ⟨s1,q0,n0,s0,hh0,s00⟩:=slots3 w h q (.slice qA qn qcap) (w0:=w0) hw0
 have HSL:=Lib.hid s1
 have HN0:=Lib.hid n0
 have HL0:=Lib.hid (HL.out.below s1.bel)
 have HS0:Hid (HStep h p R wv kv R wv kv w0 w0):=HStep.refl _ _ _ _ _ _
 have v0:w0.cell? ⟨w.heap.size+1,0,none⟩=some (.int .i64 q.verb):=q0.cellS rfl
 have HF:Hid (ElseF H 4 H):=⟨rfl,rfl⟩
 clear hw0 q0 n0 s0 hh0 s00 s1
 have zb:=HN0.out
 have z0:w0.cell? ⟨w.heap.size+1+1,0,none⟩=some (.int .i64 0):=zb.cellS rfl
 have z1:w0.cell? ⟨w.heap.size+1+1,1,none⟩=some (.int .i64 0):=zb.cellS rfl
 have z2:w0.cell? ⟨w.heap.size+1+1,2,none⟩=some (.int .i64 0):=zb.cellS rfl
 have z3:w0.cell? ⟨w.heap.size+1+1,3,none⟩=some (.int .i64 0):=zb.cellS rfl
 have z4:w0.cell? ⟨w.heap.size+1+1,4,none⟩=some (.int .i64 0):=zb.cellS rfl
 have z5:w0.cell? ⟨w.heap.size+1+1,5,none⟩=some (.int .i64 0):=zb.cellS rfl
 have z6:w0.cell? ⟨w.heap.size+1+1,6,none⟩=some (.int .i64 0):=zb.cellS rfl
 have z7:w0.cell? ⟨w.heap.size+1+1,7,none⟩=some (.int .i64 0):=zb.cellS rfl
 have z8:w0.cell? ⟨w.heap.size+1+1,8,none⟩=some (.string ⟨#[]⟩):=zb.cellS rfl
 have z9:w0.cell? ⟨w.heap.size+1+1,9,none⟩=some (.slice none 0 0):=zb.cellS rfl
 have zf0:=zb.frozen 0
 have zf1:=zb.frozen 1
 have zf2:=zb.frozen 2
 have zf3:=zb.frozen 3
 have zf4:=zb.frozen 4
 have zf5:=zb.frozen 5
 have zf6:=zb.frozen 6
 have zf7:=zb.frozen 7
 have zf8:=zb.frozen 8
 have zf9:=zb.frozen 9
 go_wp2_with fail
 obtain ⟨hbk,hmd⟩:=an_refused HN0.out 0
 generalize hWW:World.setCell _ _ _=WW at hbk hmd ⊢
 have k0:WW.cell? ⟨w.heap.size+1+1,0,none⟩=some (.int .i64 0):=hbk.cellS rfl
 have k1:WW.cell? ⟨w.heap.size+1+1,1,none⟩=some (.int .i64 0):=hbk.cellS rfl
 have k2:WW.cell? ⟨w.heap.size+1+1,2,none⟩=some (.int .i64 0):=hbk.cellS rfl
 have k3:WW.cell? ⟨w.heap.size+1+1,3,none⟩=some (.int .i64 0):=hbk.cellS rfl
 have k4:WW.cell? ⟨w.heap.size+1+1,4,none⟩=some (.int .i64 0):=hbk.cellS rfl
 have k5:WW.cell? ⟨w.heap.size+1+1,5,none⟩=some (.int .i64 0):=hbk.cellS rfl
 have k6:WW.cell? ⟨w.heap.size+1+1,6,none⟩=some (.int .i64 0):=hbk.cellS rfl
 have k7:WW.cell? ⟨w.heap.size+1+1,7,none⟩=some (.int .i64 0):=hbk.cellS rfl
 have k8:WW.cell? ⟨w.heap.size+1+1,8,none⟩=some (.string ⟨#[]⟩):=hbk.cellS rfl
 have k9:WW.cell? ⟨w.heap.size+1+1,9,none⟩=some (.slice none 0 0):=hbk.cellS rfl
 clear hWW hbk
 refine bodyPost_ret (v:= .tuple #[ansV (An.zero 0) (.slice none 0 0),.int .i64 4]) (by simp [results,Tryz.results47,go_sem,ansV,An.zero,k0,k1,k2,k3,k4,k5,k6,k7,k8,k9,str]) rfl ?_
 exact try_no HSL.out HL.out HS0.out HL0.out (St.refl HL.out.ar.rel t) ⟨rfl,rfl,rfl⟩ (by decide) HF.out hmd
end Go.Proofs.YthohnjgnpapnoaaGreatDoor
namespace Go.Proofs.YthohnjgnpapnoaaGreatDoor
open Go.RowKit
theorem enters_new:∀args w,(callFunc 70 args).run Tryz.prog w= .ok (.enter 70 args) w:=enters_of Tryz.func70 (by kernel_rfl) rfl
theorem enters_copy:∀args w,(callFunc 77 args).run Tryz.prog w= .ok (.enter 77 args) w:=enters_of Tryz.func77 (by kernel_rfl) rfl
def NewC (V:List Thing):Prop:=∀x∈nodes (rootT (setOfL []) 1),x∈V
set_option maxRecDepth 100000 in
set_option maxHeartbeats 12800000 in
theorem try_new (w:World) (h p:Nat) (R:ArR) (H:HS) (t:Nat) (d:Int) (wv kv:Value) (HH:Hl w h p R H.S H.A t d H.Ws wv H.ser H.K kv) (q:SReq) (qA:Option Addr) (qn qcap:Nat) (hn:q.name.length≤4294967296) (hbl:(-9223372036854775808≤q.b∧q.b≤9223372036854775807)) (hv:q.verb=1):
 Calls Tryz.prog 47 #[.pointer (some ⟨h,0,none⟩),reqV q (.slice qA qn qcap)] w (TryP w h p R H t d wv kv (AddF H q.name q.b q.l t NewC) (AddG H q.name (setOfL []) 1 q.b q.l t NewC)):=by
 have HL:=Lib.hid HH
 have hv1:(q.verb==1)=true:=by simp [hv]
 clear HH hv
 unfold reqV
 go_enter Tryz.func47,Tryz.ntmps47
 go_wp2_with fail
 generalize hw0:World.alloc (World.alloc (World.alloc w _) _) _=w0
 obtain ⟨s1,q0,n0,s0,hh0,s00⟩:=slots3 w h q (.slice qA qn qcap) (w0:=w0) hw0
 have HSL:=Lib.hid s1
 have HN0:=Lib.hid n0
 have HL0:=Lib.hid (HL.out.below s1.bel)
 have hsu:Supp (setOfL []) 1:=fun a b hp=>by simp [setOfL] at hp
 have hok:okP (setOfL []):=fun a b hp=>by simp [setOfL] at hp
 have hno:=(HL.out.new s0.lo).1
 have HCT:=Lib.hid (add_any w0 h p R H t d wv kv HL0.out q.name hn q.b q.l hbl (setOfL []) 1 (Nat.le_refl _) (by decide) hsu hok NewC 70 #[.pointer (some ⟨w.heap.size,0,none⟩),.pointer (some ⟨w.heap.size+1,0,none⟩)] (fun w=>enters_new _ w)
  (fun w1 hb1=>newOf_any w1 h p R H.S H.A t d H.Ws wv H.ser H.K kv (HL0.out.below hb1) w.heap.size (w.heap.size+1) (hh0.mod (Mod.of_below_all hb1) id) q (.slice qA qn qcap) (q0.mod (Mod.of_below_all hb1) id) hno))
 clear hw0 q0 n0 s0 hh0 s00 s1 hsu hok hno
 (with_reducible refine HCT.out.mono ?_)
 intro e w4 hq
 obtain ⟨a,vA,vn,vcap,x,rfl,hbk,hfin⟩:=try_pass HSL.out HL.out HN0.out hq (fun _ _ g=>g) (fun _ _ g=>g)
 have HN4:=Lib.hid hbk
 have HFN:=Lib.hid hfin
 clear hbk hfin hq
 unfold ansV
 have zb:=HN4.out
 have z0:w4.cell? ⟨w.heap.size+1+1,0,none⟩=some (.int .i64 0):=zb.cellS rfl
 have z1:w4.cell? ⟨w.heap.size+1+1,1,none⟩=some (.int .i64 0):=zb.cellS rfl
 have z2:w4.cell? ⟨w.heap.size+1+1,2,none⟩=some (.int .i64 0):=zb.cellS rfl
 have z3:w4.cell? ⟨w.heap.size+1+1,3,none⟩=some (.int .i64 0):=zb.cellS rfl
 have z4:w4.cell? ⟨w.heap.size+1+1,4,none⟩=some (.int .i64 0):=zb.cellS rfl
 have z5:w4.cell? ⟨w.heap.size+1+1,5,none⟩=some (.int .i64 0):=zb.cellS rfl
 have z6:w4.cell? ⟨w.heap.size+1+1,6,none⟩=some (.int .i64 0):=zb.cellS rfl
 have z7:w4.cell? ⟨w.heap.size+1+1,7,none⟩=some (.int .i64 0):=zb.cellS rfl
 have z8:w4.cell? ⟨w.heap.size+1+1,8,none⟩=some (.string ⟨#[]⟩):=zb.cellS rfl
 have z9:w4.cell? ⟨w.heap.size+1+1,9,none⟩=some (.slice none 0 0):=zb.cellS rfl
 have zf0:=zb.frozen 0
 have zf1:=zb.frozen 1
 have zf2:=zb.frozen 2
 have zf3:=zb.frozen 3
 have zf4:=zb.frozen 4
 have zf5:=zb.frozen 5
 have zf6:=zb.frozen 6
 have zf7:=zb.frozen 7
 have zf8:=zb.frozen 8
 have zf9:=zb.frozen 9
 go_wp2_with fail
 have hbm:Blk ((((((((((w4.setCell ⟨w.heap.size+1+1,0,none⟩ (.int .i64 a.code)).setCell ⟨w.heap.size+1+1,1,none⟩ (.int .i64 a.n)).setCell ⟨w.heap.size+1+1,2,none⟩ (.int .i64 a.x0)).setCell ⟨w.heap.size+1+1,3,none⟩ (.int .i64 a.y0)).setCell ⟨w.heap.size+1+1,4,none⟩ (.int .i64 a.x1)).setCell ⟨w.heap.size+1+1,5,none⟩ (.int .i64 a.y1)).setCell ⟨w.heap.size+1+1,6,none⟩ (.int .i64 a.b)).setCell ⟨w.heap.size+1+1,7,none⟩ (.int .i64 a.l)).setCell ⟨w.heap.size+1+1,8,none⟩ (.string (str a.key))).setCell ⟨w.heap.size+1+1,9,none⟩ (.slice vA vn vcap)) (w.heap.size+1+1) 57 (anC a (.slice vA vn vcap))∧Mod (fun b=>b=w.heap.size+1+1) w4 ((((((((((w4.setCell ⟨w.heap.size+1+1,0,none⟩ (.int .i64 a.code)).setCell ⟨w.heap.size+1+1,1,none⟩ (.int .i64 a.n)).setCell ⟨w.heap.size+1+1,2,none⟩ (.int .i64 a.x0)).setCell ⟨w.heap.size+1+1,3,none⟩ (.int .i64 a.y0)).setCell ⟨w.heap.size+1+1,4,none⟩ (.int .i64 a.x1)).setCell ⟨w.heap.size+1+1,5,none⟩ (.int .i64 a.y1)).setCell ⟨w.heap.size+1+1,6,none⟩ (.int .i64 a.b)).setCell ⟨w.heap.size+1+1,7,none⟩ (.int .i64 a.l)).setCell ⟨w.heap.size+1+1,8,none⟩ (.string (str a.key))).setCell ⟨w.heap.size+1+1,9,none⟩ (.slice vA vn vcap)):=an_stored HN4.out a (.slice vA vn vcap)
 obtain ⟨hbk,hmd⟩:=hbm
 generalize hWW:World.setCell _ _ _=WW at hbk hmd ⊢
 have k0:WW.cell? ⟨w.heap.size+1+1,0,none⟩=some (.int .i64 a.code):=hbk.cellS rfl
 have k1:WW.cell? ⟨w.heap.size+1+1,1,none⟩=some (.int .i64 a.n):=hbk.cellS rfl
 have k2:WW.cell? ⟨w.heap.size+1+1,2,none⟩=some (.int .i64 a.x0):=hbk.cellS rfl
 have k3:WW.cell? ⟨w.heap.size+1+1,3,none⟩=some (.int .i64 a.y0):=hbk.cellS rfl
 have k4:WW.cell? ⟨w.heap.size+1+1,4,none⟩=some (.int .i64 a.x1):=hbk.cellS rfl
 have k5:WW.cell? ⟨w.heap.size+1+1,5,none⟩=some (.int .i64 a.y1):=hbk.cellS rfl
 have k6:WW.cell? ⟨w.heap.size+1+1,6,none⟩=some (.int .i64 a.b):=hbk.cellS rfl
 have k7:WW.cell? ⟨w.heap.size+1+1,7,none⟩=some (.int .i64 a.l):=hbk.cellS rfl
 have k8:WW.cell? ⟨w.heap.size+1+1,8,none⟩=some (.string (str a.key)):=hbk.cellS rfl
 have k9:WW.cell? ⟨w.heap.size+1+1,9,none⟩=some (.slice vA vn vcap):=hbk.cellS rfl
 clear hWW hbk
 refine bodyPost_ret (v:= .tuple #[ansV a (.slice vA vn vcap),.int .i64 x]) (by simp [results,Tryz.results47,go_sem,ansV,An.zero,k0,k1,k2,k3,k4,k5,k6,k7,k8,k9,str]) rfl ?_
 exact HFN.out _ hmd
end Go.Proofs.YthohnjgnpapnoaaGreatDoor
