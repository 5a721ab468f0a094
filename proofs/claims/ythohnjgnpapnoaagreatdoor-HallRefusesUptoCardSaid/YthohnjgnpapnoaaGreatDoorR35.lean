/- lifelodgekeep.some: so many cells at most, nearer to 0 than a bound. · keep: request; lists of requests in memory. · A list of requests as an argument: what a row's precondition says of it. · hall: how few things a set asks for. No program is named here. · hall: what try says of each verb. · HallLeases: the law: what a leased key opens. No program is walked here. · leap: which squares and notes a result asks for, in plain words. No program is named here. · LeapStill: the plain law: a block of four cells stays, and how many squares it has. · LeapStill: all squares and notes of a block of four cells. · leap: a window that meets no cell is empty. · leap: moved cells; their squares and steps. No program is named here. -/
import Derived.Test.YthohnjgnpapnoaaGreatDoorR15
import Derived.Test.YthohnjgnpapnoaaGreatDoorR1
import Derived.Test.YthohnjgnpapnoaaGreatDoorR2
import Derived.IntWalk
import Derived.Deep.RegionHeld3
import Derived.Test.YthohnjgnpapnoaaGreatDoorR34
import Derived.Test.YthohnjgnpapnoaaGreatDoorR27
import Derived.Test.YthohnjgnpapnoaaGreatDoorR13
import Derived.Test.YthohnjgnpapnoaaGreatDoorR23
import Derived.Test.YthohnjgnpapnoaaGreatDoorR19
import Derived.Test.YthohnjgnpapnoaaGreatDoorR10
set_option linter.unusedVariables false
set_option linter.unusedSimpArgs false
namespace Go.Proofs.YthohnjgnpapnoaaGreatDoor
open Go.RowKit
def nearC (near:Int) (c:Int×Int):Int×Int:=(c.1%(2*near)-near,c.2%(2*near)-near)
def someL (l:List (Int×Int)) (most:Nat) (near:Int):List (Int×Int):=(l.take most).map (nearC near)
theorem nearC_lt (near:Int) (h:0<near) (c:Int×Int):(-near≤(nearC near c).1∧(nearC near c).1<near)∧(-near≤(nearC near c).2∧(nearC near c).2<near):=by
 unfold nearC
 have h1:=Int.emod_nonneg c.1 (show 2*near≠0 by omega)
 have h2:=Int.emod_lt_of_pos c.1 (show 0<2*near by omega)
 have h3:=Int.emod_nonneg c.2 (show 2*near≠0 by omega)
 have h4:=Int.emod_lt_of_pos c.2 (show 0<2*near by omega)
 dsimp only
 omega
theorem someL_near {l:List (Int×Int)} {most:Nat} {near:Int} (h:0<near) {c:Int×Int} (hc:c∈someL l most near):(-near≤c.1∧c.1<near)∧(-near≤c.2∧c.2<near):=by
 unfold someL at hc
 simp only [List.mem_map] at hc
 obtain ⟨a,_,rfl⟩:=hc
 exact nearC_lt near h a
theorem someL_length (l:List (Int×Int)) (most:Nat) (near:Int):(someL l most near).length=min most l.length:=by simp [someL]
theorem someL_step (l:List (Int×Int)) (k:Nat) (near:Int) (hk:k<l.length):someL l (k+1) near=someL l k near++ [nearC near l[k]!]:=by
 unfold someL
 rw [List.take_add_one,List.map_append,List.getElem?_eq_getElem hk,List.getElem!_eq_getElem?_getD,List.getElem?_eq_getElem hk]
 simp
theorem cell_alloc_drew {w:World} {o:Obj} {b i:Nat} {u:Value} (hb:b<w.heap.size) (h:w.cell? ⟨b,i,none⟩=some u):((w.alloc o).drew).cell? ⟨b,i,none⟩=some u:=
 (World.cell?_alloc_lt w o (a:=⟨b,i,none⟩) hb).trans h
theorem cell_lt {w:World} {o:Obj} {b i:Nat} (hb:b<w.heap.size):(⟨b,i,none⟩:Addr).block<((w.alloc o).drew).heap.size:=by
 show b<(w.alloc o).heap.size
 rw [World.size_alloc];omega
def SomePost (w:World) (n most:Nat) (l:List (Int×Int)) (near:Int) (e:Ending) (w':World):Prop:=
 ∃v',e= .returned v'∧Sl w' 109 2 v' (min most n) (flat (someL l most near))∧(∀b,sblk v'=some b→w.heap.size≤b)∧Below w.heap.size w w'
set_option maxRecDepth 100000 in
set_option maxHeartbeats 3200000 in
theorem some_any (w:World) (n most:Nat) (v:Value) (l:List (Int×Int)) (near:Int) (h:Rd w w.heap.size 2 v n (flat l)) (hin:∀c∈l,inC c) (hmost:most≤4096) (hn1:1≤near) (hn2:near≤1152921504606846976):
 Calls Tryz.prog 28 #[v,.int .i64 most,.int .i64 near] w (SomePost w n most l near):=by
 obtain ⟨A,cap,rfl,hc1,hc2⟩:=h.form
 obtain ⟨hl,hat⟩:=h.pairs
 have HAT:=Lib.hid hat
 have HIN:=Lib.hid hin
 have HL:=Lib.hid hl
 have HNIL:=Lib.hid (Sl.nil w 109 2)
 clear h hat hin hl
 unfold maxLen at hc2
 go_enter Tryz.func28,Tryz.ntmps28
 go_wp2
 go_loopw [7,8] (fun av iv wx=>∃k:Nat,k≤n∧k≤most∧iv= .int .i64 k∧Sl wx 109 2 av k (flat (someL l k near))∧(∀b,sblk av=some b→w.heap.size≤b)∧Below w.heap.size w wx) (fun _ iv _=>n-(intOf iv).toNat)
 case atStart=>exact ⟨0,Nat.zero_le _,Nat.zero_le _,rfl,HNIL.out,fun b hb=>by simp [sblk] at hb,Below.refl _ _⟩
 case round=>
  obtain ⟨k,hkn,hkm,rfl,hs,hf,hb⟩:=hrel
  by_cases hlt:k<n
  ·by_cases hlm:k<most
   ·obtain ⟨b,off,cap',he,_,_,hb1,hcs⟩:=HAT.out (by omega)
    injection he with he1 he2 he3
    subst he1 he3
    obtain ⟨c1,c2⟩:=hcs k hlt
    rw [←hb.cell (p:=⟨b,off+k*2,none⟩) (by show b<_;omega)] at c1
    rw [←hb.cell (p:=⟨b,off+k*2+1,none⟩) (by show b<_;omega)] at c2
    have hok:inC l[k]! :=HIN.out _ (by rw [List.getElem!_eq_getElem?_getD,List.getElem?_eq_getElem (by rw [HL.out];exact hlt)];simp)
    have hstep:=someL_step l k near (by rw [HL.out];exact hlt)
    have hnr:=nearC_lt near (by omega) l[k]!
    generalize l[k]! =c at c1 c2 hok hstep hnr
    obtain ⟨x,y⟩:=c
    obtain ⟨⟨o1,o2⟩,o3,o4⟩:=hok
    obtain ⟨⟨p1,p2⟩,p3,p4⟩:=hnr
    unfold nearC at p1 p2 p3 p4 hstep
    dsimp only at o1 o2 o3 o4 p1 p2 p3 p4
    have HSTEP:=Lib.hid hstep
    have HS:=Lib.hid hs
    have HF:=Lib.hid hf
    have HB:=Lib.hid hb
    have e1:=IntWalk.i64_in (2*near) (by omega)
    have e2:=IntWalk.i64_in (x%(2*near)-near) (by omega)
    have e3:=IntWalk.i64_in (y%(2*near)-near) (by omega)
    have HX:=Lib.hid (And.intro o1 o2)
    have HY:=Lib.hid (And.intro o3 o4)
    have HNR:Hid (1≤2*near∧2*near≤4611686018427387904):=⟨by omega,by omega⟩
    have hblt:b<wr.heap.size:=Nat.lt_of_lt_of_le hb1 hb.size
    have hsz:=hb.size
    clear hstep hs hf hb hcs p1 p2 p3 p4 o1 o2 o3 o4
    go_wp2_with fail
    go_region_held3 (fun w'=>w'.cell? ⟨b,off+k*2,none⟩=some (.int .i64 x)∧w'.cell? ⟨b,off+k*2+1,none⟩=some (.int .i64 y)) (first | exact ⟨c1,c2⟩ | exact ⟨cell_alloc_drew hblt c1,cell_alloc_drew hblt c2⟩ | exact ⟨hm4c c1,hm4c c2⟩)
     (first
       | (go_at_call 23;refine (spot_any _ (2*near) HNR.out.1 HNR.out.2 (by first | exact HX.out.1 | exact HY.out.1) (by first | exact HX.out.2 | exact HY.out.2) _).mono ?_;rintro e w' ⟨rfl,rfl⟩)
       | (refine step_append_sl _ rfl (.tmp 20) (.tmp 42) 55 rfl 109 (.agg #[.int .i64 0,.int .i64 0]) 2 16 Tryz.underlying55 Tryz.info109 rfl (by decide) rfl (by exact (HS.out.alloc _)) rfl (by exact (fresh_cells wr [(x%(2*near)-near,y%(2*near)-near)] 1 rfl (by unfold maxLen;omega))) flat_one (by omega) (by unfold maxLen;omega) ?_;intro v4 w4 hs4 hm4 hd4;have hm4c:∀{i:Nat} {u:Value},wr.cell? ⟨b,i,none⟩=some u→w4.cell? ⟨b,i,none⟩=some u:=fun h=>(hm4.cell (a:=⟨b,_,none⟩) (cell_lt hblt) (fun he=>by have:=HF.out b he;omega)).trans (cell_alloc_drew hblt h)))
    have hba:Below w.heap.size w ((wr.alloc (.cells #[.int .i64 (x%(2*near)-near),.int .i64 (y%(2*near)-near)] 109)).drew):=
     let hz:=HB.out.alloc hsz (.cells #[.int .i64 (x%(2*near)-near),.int .i64 (y%(2*near)-near)] 109)
     ⟨hz.os,hz.tape,hz.output,hz.size,hz.block⟩
    obtain ⟨f1,f2⟩:=fresh_of (w:=w) hm4 hd4 hba HF.out
    have HS4:Hid (Sl w4 109 2 v4 (k+1) (flat (someL l (k+1) near))):=by
     show Sl _ _ _ _ _ _
     rw [HSTEP.out,flat_append];exact hs4
    have HF1:=Lib.hid f1
    have HF2:=Lib.hid f2
    clear hs4 hm4 hd4 f1 f2 hba e1 e2 e3
    go_wp2
    go_roundw
    case rel=>exact ⟨k+1,by omega,by omega,by go_num,HS4.out,HF1.out,HF2.out⟩
    case measure=>simp [intOf];omega
   ·obtain rfl:k=most:=by omega
    have hmin:min k n=k:=by omega
    have HS:=Lib.hid hs
    have HF:=Lib.hid hf
    have HB:=Lib.hid hb
    clear hs hf hb
    go_wp2
    go_ret
    exact ⟨_,rfl,by rw [hmin];exact HS.out,HF.out,HB.out⟩
  ·obtain rfl:k=n:=by omega
   have hmin:min most k=k:=by omega
   have HS:=Lib.hid hs
   have HF:=Lib.hid hf
   have HB:=Lib.hid hb
   have hall:someL l k near=someL l most near:=by
    unfold someL
    rw [List.take_of_length_le (by have:=HL.out;omega),List.take_of_length_le (by have:=HL.out;omega)]
   have HALL:=Lib.hid hall
   clear hs hf hb hall
   go_wp2
   go_ret
   exact ⟨_,rfl,by rw [hmin,←HALL.out];exact HS.out,HF.out,HB.out⟩
end Go.Proofs.YthohnjgnpapnoaaGreatDoor
namespace Go.Proofs.YthohnjgnpapnoaaGreatDoor
open Go.RowKit
def reqC (x:SReq×Value):List Value:=[.int .i64 x.1.verb,.string (str x.1.name),.string (str x.1.other),.int .i64 x.1.b,.int .i64 x.1.l,.int .i64 x.1.n,x.2]
def reqsV (L:List (SReq×Value)):List Value:=L.flatMap reqC
theorem reqsV_len (l:List (SReq×Value)):(reqsV l).length=l.length*7:=by
 induction l with
 | nil=>rfl
 | cons a l ih=>rw [reqsV,List.flatMap_cons,List.length_append,←reqsV,ih];simp [reqC];omega
theorem reqsV_at:∀(l:List (SReq×Value)) (i:Nat) (x:SReq×Value),l[i]? =some x→∀j,j<7→(reqsV l)[i*7+j]? =(reqC x)[j]?
 | [],i,x,h,_,_=>by simp at h
 | a::l,0,x,h,j,hj=>by
   have:a=x:=by simpa using h
   subst this
   rw [reqsV,List.flatMap_cons,List.getElem?_append_left (by simp [reqC];omega)]
   simp
 | a::l,i+1,x,h,j,hj=>by
   have h':l[i]? =some x:=by simpa using h
   rw [reqsV,List.flatMap_cons,List.getElem?_append_right (by simp [reqC];omega)]
   have:=reqsV_at l i x h' j hj
   rw [reqsV] at this
   rw [←this]
   congr 1
   simp [reqC]
   omega
structure ReqFit (W:World) (x:SReq×Value):Prop where
 rd:Rd W W.heap.size 2 x.2 x.1.cells.length (flat x.1.cells)
 inn:∀c∈x.1.cells,inC c
 name:x.1.name.length≤4294967296
 other:x.1.other.length≤4294967296
 len:x.1.cells.length*16≤140737488355328
 b: -9223372036854775808≤x.1.b∧x.1.b≤9223372036854775807
 n: -9223372036854775808≤x.1.n∧x.1.n≤9223372036854775807
structure ReqsIn (W:World) (v:Value) (N:Nat) (L:List (SReq×Value)):Prop where
 len:L.length=N
 rd:Rd W W.heap.size 7 v N (reqsV L)
 fit:∀x∈L,ReqFit W x
def ReqPost (w:World) (q:SReq) (e:Ending) (w':World):Prop:=
 ∃(vA:Option Addr) (vcap:Nat),e= .returned (reqV q (.slice vA q.cells.length vcap))∧Sl w' 109 2 (.slice vA q.cells.length vcap) q.cells.length (flat q.cells)∧(∀b,sblk (.slice vA q.cells.length vcap)=some b→w.heap.size≤b)∧Below w.heap.size w w'
set_option maxRecDepth 100000 in
set_option maxHeartbeats 3200000 in
theorem request_any (w:World) (q:SReq) (v:Value) (hR:Rd w w.heap.size 2 v q.cells.length (flat q.cells)) (hn:q.cells.length*16≤140737488355328):
 Calls Tryz.prog 26 #[reqV q v] w (ReqPost w q):=by
 have HR:=Lib.hid hR
 have HN:=Lib.hid hn
 clear hR hn
 obtain ⟨vA0,vcap0,rfl,_,_⟩:=HR.out.form
 unfold reqV
 go_enter Tryz.func26,Tryz.ntmps26
 go_wp2_with fail
 generalize hw1:World.alloc (World.alloc w _) _=w1
 have HB1:Hid (Below w.heap.size w w1):=by subst hw1;exact ((Below.refl _ _).alloc (Nat.le_refl _) _).alloc (by simp) _
 have HK1:Hid (Blk w1 w.heap.size 60 #[.int .i64 q.verb,.string (str q.name),.string (str q.other),.int .i64 q.b,.int .i64 q.l,.int .i64 q.n,.slice vA0 q.cells.length vcap0]):=by subst hw1;exact (Blk.new w _ _).alloc _
 have HZ1:Hid (Blk w1 (w.heap.size+1) 60 #[.int .i64 0,.string ⟨#[]⟩,.string ⟨#[]⟩,.int .i64 0,.int .i64 0,.int .i64 0,.slice none 0 0]):=by
  subst hw1
  have:=Blk.new (w.alloc (.cells #[.int .i64 q.verb,.string (str q.name),.string (str q.other),.int .i64 q.b,.int .i64 q.l,.int .i64 q.n,.slice vA0 q.cells.length vcap0] 60)) 60 #[.int .i64 0,.string ⟨#[]⟩,.string ⟨#[]⟩,.int .i64 0,.int .i64 0,.int .i64 0,.slice none 0 0]
  rw [World.size_alloc] at this
  exact this
 clear hw1
 (with_reducible refine (cells_any w1 w.heap.size q.cells.length _ q.cells (HR.out.below HB1.out) HN.out).mono ?_)
 rintro e w2 ⟨v2,rfl,hsl,hf,hb⟩
 obtain ⟨vA2,vcap2,rfl,_,_⟩:=hsl.form
 have HSL:=Lib.hid hsl
 have HF:=Lib.hid hf
 have HB2:=Lib.hid hb
 have HK2:=Lib.hid (HK1.out.mod (Mod.of_below_all hb) id)
 have HZ2:=Lib.hid (HZ1.out.mod (Mod.of_below_all hb) id)
 clear hsl hf hb
 have c0:=HK2.out.cellS (i:=0) rfl
 have c1:=HK2.out.cellS (i:=1) rfl
 have c2:=HK2.out.cellS (i:=2) rfl
 have c3:=HK2.out.cellS (i:=3) rfl
 have c4:=HK2.out.cellS (i:=4) rfl
 have c5:=HK2.out.cellS (i:=5) rfl
 have c6:=HK2.out.cellS (i:=6) rfl
 have f6:=HK2.out.frozen 6
 have z0:=HZ2.out.cellS (i:=0) rfl
 have z1:=HZ2.out.cellS (i:=1) rfl
 have z2:=HZ2.out.cellS (i:=2) rfl
 have z3:=HZ2.out.cellS (i:=3) rfl
 have z4:=HZ2.out.cellS (i:=4) rfl
 have z5:=HZ2.out.cellS (i:=5) rfl
 have z6:=HZ2.out.cellS (i:=6) rfl
 have g0:=HZ2.out.frozen 0
 have g1:=HZ2.out.frozen 1
 have g2:=HZ2.out.frozen 2
 have g3:=HZ2.out.frozen 3
 have g4:=HZ2.out.frozen 4
 have g5:=HZ2.out.frozen 5
 have g6:=HZ2.out.frozen 6
 go_wp2_with fail
 have hZ:=(((((((HZ2.out.far (p:=⟨w.heap.size,6,none⟩) (by show w.heap.size+1≠w.heap.size;omega) (.slice vA2 q.cells.length vcap2)).set 0 (.int .i64 q.verb)).set 1 (.string (str q.name))).set 2 (.string (str q.other))).set 3 (.int .i64 q.b)).set 4 (.int .i64 q.l)).set 5 (.int .i64 q.n)).set 6 (.slice vA2 q.cells.length vcap2)
 have hM:Mod (fun b=>b=w.heap.size∨b=w.heap.size+1) w2 _:=((((((((Mod.refl (fun b=>b=w.heap.size∨b=w.heap.size+1) w2).set (p:=⟨w.heap.size,6,none⟩) (fun _=> .inl rfl) (.slice vA2 q.cells.length vcap2)).set (p:=⟨w.heap.size+1,0,none⟩) (fun _=> .inr rfl) (.int .i64 q.verb)).set (p:=⟨w.heap.size+1,1,none⟩) (fun _=> .inr rfl) (.string (str q.name))).set (p:=⟨w.heap.size+1,2,none⟩) (fun _=> .inr rfl) (.string (str q.other))).set (p:=⟨w.heap.size+1,3,none⟩) (fun _=> .inr rfl) (.int .i64 q.b)).set (p:=⟨w.heap.size+1,4,none⟩) (fun _=> .inr rfl) (.int .i64 q.l)).set (p:=⟨w.heap.size+1,5,none⟩) (fun _=> .inr rfl) (.int .i64 q.n)).set (p:=⟨w.heap.size+1,6,none⟩) (fun _=> .inr rfl) (.slice vA2 q.cells.length vcap2)
 generalize hWW:World.setCell _ _ _=WW at hZ hM ⊢
 have k0:WW.cell? ⟨w.heap.size+1,0,none⟩=some (.int .i64 q.verb):=hZ.cellS rfl
 have k1:WW.cell? ⟨w.heap.size+1,1,none⟩=some (.string (str q.name)):=hZ.cellS rfl
 have k2:WW.cell? ⟨w.heap.size+1,2,none⟩=some (.string (str q.other)):=hZ.cellS rfl
 have k3:WW.cell? ⟨w.heap.size+1,3,none⟩=some (.int .i64 q.b):=hZ.cellS rfl
 have k4:WW.cell? ⟨w.heap.size+1,4,none⟩=some (.int .i64 q.l):=hZ.cellS rfl
 have k5:WW.cell? ⟨w.heap.size+1,5,none⟩=some (.int .i64 q.n):=hZ.cellS rfl
 have k6:WW.cell? ⟨w.heap.size+1,6,none⟩=some (.slice vA2 q.cells.length vcap2):=hZ.cellS rfl
 have HM:=Lib.hid hM
 clear hWW hZ hM
 refine bodyPost_ret (v:=reqV q (.slice vA2 q.cells.length vcap2)) (by simp [results,Tryz.results26,go_sem,reqV,k0,k1,k2,k3,k4,k5,k6]) rfl ?_
 have hz:=HB1.out.size
 have hlt:=HZ1.out.lt
 refine ⟨vA2,vcap2,rfl,HSL.out.mod HM.out fun b hb e=>?_,fun b hb=>Nat.le_trans hz (HF.out b hb),(HB1.out.trans (HB2.out.mono hz)).trans (HM.out.below (Nat.le_trans hz HB2.out.size) fun b hb e=>by omega)⟩
 have:=HF.out b hb
 omega
end Go.Proofs.YthohnjgnpapnoaaGreatDoor
namespace Go.Proofs.YthohnjgnpapnoaaGreatDoor
open Go.ChangeShapes Go.WideShapes Go.ChangeAt Go.RowKit Go.ChangeMaps
theorem Tryz.reqS:∃f0 f1 f2 f3 f4 f5,Tryz.prog.underlying 60=some (.struct #[f0,f1,f2,f3,f4,f5])∧(f0.offset=0∧f1.offset=1∧f2.offset=2∧f3.offset=3∧f4.offset=5∧f5.offset=6)∧(f0.type=3∧f1.type=9∧f2.type=9∧f3.type=54∧f4.type=3∧f5.type=55):=by
 exact ⟨_,_,_,_,_,_,Tryz.underlying60,⟨rfl,rfl,rfl,rfl,rfl,rfl⟩,rfl,rfl,rfl,rfl,rfl,rfl⟩
theorem Tryz.ruleS':∃f0 f1,Tryz.prog.underlying 54=some (.struct #[f0,f1])∧f0.offset=0∧f1.offset=1∧f0.type=3∧f1.type=3:=by
 exact ⟨_,_,Tryz.underlying54,rfl,rfl,rfl,rfl⟩
theorem Tryz.cellsReq:Tryz.prog.cellsOf 60=7:=by kernel_rfl
theorem Tryz.cellsRule':Tryz.prog.cellsOf 54=2:=by kernel_rfl
theorem Tryz.cellsStr:Tryz.prog.cellsOf 9=1:=by kernel_rfl
theorem Tryz.cellsSl:Tryz.prog.cellsOf 55=1:=by kernel_rfl
set_option maxRecDepth 100000 in
theorem cells_of_trod {H:Type} {enc:TypeId×Value→H} {W:World} {v:Value} {fuel:Nat} {x:DataW H×List MemPlace}
 (hf:DataW.trod enc Tryz.prog W 0 (fun _=>true) true fuel 55 [v]=some x):
 ∃(n:Nat) (l:List (Int×Int)),Rd W W.heap.size 2 v n (flat l)∧(∀c∈l,inC c)∧(n=0∨∃elems rest,x.1= .slice elems rest∧elems.length=n):=by
 obtain ⟨f0,f1,hu,o0,o1,t0,t1⟩:=Tryz.cellS
 rcases open_two Tryz.underlying55 hu o0 o1 (by rw [t0];exact Tryz.cellsInt) (by rw [t1];exact Tryz.cellsInt) Tryz.cellsCell hf with hcs | ⟨a,len,cap,hcs,hl,hm,hi⟩
 ·injection hcs with hcs
  subst hcs
  exact ⟨0,[],⟨rfl,_,_,rfl,Nat.le_refl _,Nat.zero_le _,fun h=>absurd h (Nat.lt_irrefl _)⟩,by simp,.inl rfl⟩
 ·injection hcs with hcs
  subst hcs
  have hlen:=slice_len Tryz.underlying55 (a:=a) (len:=len) (cap:=cap) hf
  have key:∀i,∃x:Int×Int,(i<len→W.cell? (a.add (i*2))=some (.int .i64 x.1)∧W.cell? ((a.add (i*2)).add 1)=some (.int .i64 x.2))∧inC x:=by
   intro i
   by_cases hil:i<len
   ·obtain ⟨v0,v1,n,y0,y1,c0,c1,g0,g1⟩:=hi i hil
    rw [t0] at g0
    rw [t1] at g1
    obtain ⟨m0,e0,_,wf0⟩:=DataW.trod_int Tryz.underlying3 g0
    obtain ⟨m,e1,_,wf⟩:=DataW.trod_int Tryz.underlying3 g1
    simp at e0 e1
    subst e0 e1
    have hb0: -9223372036854775808≤m0∧m0≤9223372036854775807:=by simpa [Lit.wf,IntKind.min,IntKind.max,IntKind.signed,IntKind.bits] using wf0
    have hb: -9223372036854775808≤m∧m≤9223372036854775807:=by simpa [Lit.wf,IntKind.min,IntKind.max,IntKind.signed,IntKind.bits] using wf
    exact ⟨(m0,m),fun _=>⟨c0,c1⟩,hb0,hb⟩
   ·exact ⟨(0,0),fun h=>absurd h hil,by unfold inC;decide⟩
  obtain ⟨f,hfx⟩:=Classical.axiomOfChoice key
  have hg:∀i,i<len→((List.range len).map f)[i]! =f i:=fun i hi=>by simp [List.getElem!_eq_getElem?_getD,List.getElem?_map,List.getElem?_range hi]
  refine ⟨len,(List.range len).map f,⟨by rw [flat_length];simp,_,_,rfl,by omega,hm,fun hn=>?_⟩,?_,.inr hlen⟩
  ·obtain ⟨b,off,spot⟩:=a
   have c0:=((hfx 0).1 hn).1
   have hspot:spot=none:=by simpa [Addr.add] using World.cell?_spot c0
   subst hspot
   refine ⟨b,off,rfl,by simpa [Addr.add] using World.block_lt_of_cell? W _ c0,flat_of_cells W b off _ fun i hil=>?_⟩
   have hil':i<len:=by simpa using hil
   obtain ⟨k0,k1⟩:=(hfx i).1 hil'
   rw [Addr.add_lit] at k0 k1
   rw [Addr.add_lit] at k1
   rw [hg i hil']
   exact ⟨k0,k1⟩
  ·intro c hc
   simp only [List.mem_map] at hc
   obtain ⟨i,_,rfl⟩:=hc
   exact (hfx i).2
theorem bulk_all_mem {H:Type} {d:DataW H}:∀{l:List (DataW H)},d∈l→Rows.uptoBulk d≤Rows.uptoBulkAll l
 | a::r,h=>by
   rw [List.mem_cons] at h
   rw [Rows.uptoBulkAll]
   rcases h with rfl | h
   ·omega
   ·have:=bulk_all_mem h;omega
theorem one_bulk {H:Type} (d:DataW H):1≤Rows.uptoBulk d:=by
 cases d with
 | lit l=>cases l<;>simp [Rows.uptoBulk]
 | nil=>simp [Rows.uptoBulk]
 | ptr d=>simp [Rows.uptoBulk]
 | slice elems spare=>simp [Rows.uptoBulk]
 | agg parts=>simp [Rows.uptoBulk]
 | iface t d=>simp [Rows.uptoBulk]
 | map entries=>simp [Rows.uptoBulk]
 | held h=>simp [Rows.uptoBulk]
theorem bulk_count {H:Type}:∀l:List (DataW H),l.length≤Rows.uptoBulkAll l
 | []=>by simp
 | a::r=>by rw [Rows.uptoBulkAll,List.length_cons];have:=bulk_count r;have:=one_bulk a;omega
theorem list_of {α:Type} (p:Nat→α→Prop):∀n,(∀i,i<n→∃x,p i x)→∃L:List α,L.length=n∧∀i x,L[i]? =some x→p i x
 | 0,_=>⟨[],rfl,fun i x h=>by simp at h⟩
 | n+1,h=>by
   obtain ⟨L,hl,hL⟩:=list_of p n fun i hi=>h i (by omega)
   obtain ⟨x,hx⟩:=h n (by omega)
   refine ⟨L++ [x],by simp [hl],fun i y hy=>?_⟩
   rcases Nat.lt_or_ge i n with hi | hi
   ·rw [List.getElem?_append_left (by omega)] at hy;exact hL i y hy
   ·rw [List.getElem?_append_right (by omega),hl] at hy
    obtain ⟨k,rfl⟩:∃k,i=n+k:=⟨i-n,by omega⟩
    rw [Nat.add_sub_cancel_left] at hy
    cases k with
    | zero=>simp at hy;subst hy;exact hx
    | succ k=>simp at hy
set_option maxRecDepth 100000 in
theorem req_of_trod {H:Type} {enc:TypeId×Value→H} {W:World} {cs:List Value} {fuel:Nat} {x:DataW H×List MemPlace} (hsz:cs.length=7)
 (hf:DataW.trod enc Tryz.prog W 0 (fun _=>true) true fuel 60 cs=some x) (hk:Rows.uptoBulk x.1≤1048576):
 ∃y:SReq×Value,cs=reqC y∧ReqFit W y:=by
 obtain ⟨f0,f1,f2,f3,f4,f5,hu,⟨o0,o1,o2,o3,o4,o5⟩,t0,t1,t2,t3,t4,t5⟩:=Tryz.reqS
 obtain ⟨ys,n',_,hy,_,hyl,hfs⟩:=DataW.trod_struct hu hf
 have hcs:∃x0 x1 x2 x3 x4 x5 x6,cs= [x0,x1,x2,x3,x4,x5,x6]:=by
  match cs,hsz with
  | [x0,x1,x2,x3,x4,x5,x6],_=>exact ⟨_,_,_,_,_,_,_,rfl⟩
 obtain ⟨x0,x1,x2,x3,x4,x5,x6,rfl⟩:=hcs
 match ys,hyl with
 | [y0,y1,y2,y3,y4,y5],_=>
   have hd:x.1= .agg [y0.1,y1.1,y2.1,y3.1,y4.1,y5.1]:=congrArg Prod.fst hy
   have g0:=hfs 0 f0 rfl
   have g1:=hfs 1 f1 rfl
   have g2:=hfs 2 f2 rfl
   have g3:=hfs 3 f3 rfl
   have g4:=hfs 4 f4 rfl
   have g5:=hfs 5 f5 rfl
   rw [o0,t0,Tryz.cellsInt] at g0
   rw [o1,t1,Tryz.cellsStr] at g1
   rw [o2,t2,Tryz.cellsStr] at g2
   rw [o3,t3,Tryz.cellsRule'] at g3
   rw [o4,t4,Tryz.cellsInt] at g4
   rw [o5,t5,Tryz.cellsSl] at g5
   simp only [List.drop_zero,List.take_succ_cons,List.take_zero,List.drop_succ_cons,List.getElem?_cons_zero,List.getElem?_cons_succ] at g0 g1 g2 g3 g4 g5
   obtain ⟨m0,e0,_,wf0⟩:=DataW.trod_int Tryz.underlying3 g0
   obtain ⟨s1,e1,b1,_⟩:=DataW.trod_string Tryz.underlying9 g1
   obtain ⟨s2,e2,b2,_⟩:=DataW.trod_string Tryz.underlying9 g2
   obtain ⟨m4,e4,_,wf4⟩:=DataW.trod_int Tryz.underlying3 g4
   obtain ⟨k0,k1,hur,ko0,ko1,kt0,kt1⟩:=Tryz.ruleS'
   obtain ⟨zs,n2,_,hz,_,hzl,hzf⟩:=DataW.trod_struct hur g3
   match zs,hzl with
   | [z0,z1],_=>
     have r0:=hzf 0 k0 rfl
     have r1:=hzf 1 k1 rfl
     rw [ko0,kt0,Tryz.cellsInt] at r0
     rw [ko1,kt1,Tryz.cellsInt] at r1
     simp only [List.drop_zero,List.take_succ_cons,List.take_zero,List.drop_succ_cons,List.getElem?_cons_zero,List.getElem?_cons_succ] at r0 r1
     obtain ⟨mb,eb,_,wfb⟩:=DataW.trod_int Tryz.underlying3 r0
     obtain ⟨ml,el,_,wfl⟩:=DataW.trod_int Tryz.underlying3 r1
     obtain ⟨n,l,hR,hin,hn⟩:=cells_of_trod g5
     simp at e0 e1 e2 e4 eb el
     subst e0 e1 e2 e4 eb el
     have hln:l.length=n:=by have:=hR.1;rw [flat_length] at this;omega
     subst hln
     have w0: -9223372036854775808≤m0∧m0≤9223372036854775807:=by simpa [Lit.wf,IntKind.min,IntKind.max,IntKind.signed,IntKind.bits] using wf0
     have w4: -9223372036854775808≤m4∧m4≤9223372036854775807:=by simpa [Lit.wf,IntKind.min,IntKind.max,IntKind.signed,IntKind.bits] using wf4
     have wb: -9223372036854775808≤mb∧mb≤9223372036854775807:=by simpa [Lit.wf,IntKind.min,IntKind.max,IntKind.signed,IntKind.bits] using wfb
     have wl: -9223372036854775808≤ml∧ml≤9223372036854775807:=by simpa [Lit.wf,IntKind.min,IntKind.max,IntKind.signed,IntKind.bits] using wfl
     have hba:Rows.uptoBulkAll [y0.1,y1.1,y2.1,y3.1,y4.1,y5.1]≤1048576:=by rw [hd] at hk;rw [Rows.uptoBulk] at hk;omega
     have h1:Rows.uptoBulk y1.1≤1048576:=Nat.le_trans (bulk_all_mem (by simp)) hba
     have h2:Rows.uptoBulk y2.1≤1048576:=Nat.le_trans (bulk_all_mem (by simp)) hba
     have h5:Rows.uptoBulk y5.1≤1048576:=Nat.le_trans (bulk_all_mem (by simp)) hba
     rw [b1] at h1
     rw [b2] at h2
     simp only [Rows.uptoBulk] at h1 h2
     have hcl:l.length≤1048576:=by
      rcases hn with h0 | ⟨elems,rest,e,he⟩
      ·omega
      ·rw [e,Rows.uptoBulk] at h5
       have:=bulk_count elems
       omega
     have hs1:str s1.data.toList=s1:=by simp [str]
     have hs2:str s2.data.toList=s2:=by simp [str]
     refine ⟨(⟨m0,s1.data.toList,s2.data.toList,mb,ml,m4,l⟩,x6),?_,hR,hin,?_,?_,?_,wb,w4⟩
     ·simp [reqC,hs1,hs2]
     ·show s1.data.toList.length≤_;omega
     ·show s2.data.toList.length≤_;omega
     ·show l.length*16≤_;omega
set_option maxRecDepth 100000 in
theorem reqs_of {H:Type} {enc:TypeId×Value→H} {W:World} {base:Nat} {v:Value} {d:DataW H} {p:List MemPlace}
 (hv:Value.okWide Tryz.prog W .any base 45 v) (h:DataW.Trod enc Tryz.prog W 0 (fun _=>true) true 45 v d p) (hk:Rows.uptoBulk d≤1048576):
 ∃(N:Nat) (L:List (SReq×Value)),ReqsIn W v N L:=by
 obtain ⟨a0,len,cap,rfl⟩:=okWide_slice Tryz.underlying45 hv
 obtain ⟨fuel,hf⟩:=h
 rcases Go.Deep.open_slice Tryz.underlying45 hf with ⟨hcs,_⟩ | ⟨a,len',cap',m,n,D,Pl,hcs,_,hl,hm,hmm,hx,hi⟩
 ·simp [Value.cells] at hcs
  obtain ⟨rfl,rfl,rfl⟩:=hcs
  exact ⟨0,[],rfl,⟨rfl,_,_,rfl,Nat.le_refl _,Nat.zero_le _,fun h=>absurd h (Nat.lt_irrefl _)⟩,fun x hx=>by cases hx⟩
 ·simp [Value.cells] at hcs
  obtain ⟨rfl,rfl,rfl⟩:=hcs
  have hd:d= .slice ((List.range len).map D) ((List.range (m-len)).map fun j=>D (len+j)):=congrArg Prod.fst hx
  rw [hd,Rows.uptoBulk] at hk
  obtain ⟨L,hL,hall⟩:=list_of (fun i (y:SReq×Value)=>(∀k,k<7→W.cell? ((a.add (i*7)).add k)=(reqC y)[k]?)∧ReqFit W y) len (by
   intro i hil
   obtain ⟨cs',hc,ht'⟩:=hi i (by rw [hmm];split<;>omega)
   rw [Tryz.cellsReq] at hc
   obtain ⟨_,hlen,hat⟩:=World.cells?_some hc
   have hb:Rows.uptoBulk (D i)≤1048576:=Nat.le_trans (bulk_all_mem (List.mem_map.2 ⟨i,List.mem_range.2 hil,rfl⟩)) (by omega)
   obtain ⟨y,rfl,hy⟩:=req_of_trod hlen ht' hb
   exact ⟨y,hat,hy⟩)
  refine ⟨len,L,hL,⟨by rw [reqsV_len,hL],_,_,rfl,hl,hm,fun hn=>?_⟩,fun y hy=>?_⟩
  ·obtain ⟨b,off,spot⟩:=a
   have g0:=hall 0 (L[0]'(by omega)) (List.getElem?_eq_getElem (by omega))
   have c00:W.cell? ((Addr.add ⟨b,off,spot⟩ (0*7)).add 0)=some (.int .i64 (L[0]'(by omega)).1.verb):=g0.1 0 (by decide)
   have hspot:spot=none:=by simpa [Addr.add] using World.cell?_spot c00
   subst hspot
   refine ⟨b,off,rfl,by simpa [Addr.add] using World.block_lt_of_cell? W _ c00,fun j u hj=>?_⟩
   have hjl:j<len*7:=by
    rcases Nat.lt_or_ge j (len*7) with h | h
    ·exact h
    ·rw [List.getElem?_eq_none (by rw [reqsV_len,hL];exact h)] at hj;cases hj
   obtain ⟨i,k,hk7,rfl⟩:∃i k,k<7∧j=i*7+k:=⟨j/7,j%7,Nat.mod_lt _ (by omega),by omega⟩
   have hil:i<L.length:=by omega
   have hg:L[i]? =some L[i]:=List.getElem?_eq_getElem hil
   rw [reqsV_at L i L[i] hg k hk7] at hj
   have ck:=(hall i L[i] hg).1 k hk7
   rw [Addr.add_lit,Addr.add_lit,hj] at ck
   rw [show off+(i*7+k)=off+i*7+k by omega]
   exact ck
  ·obtain ⟨i,hi'⟩:=List.mem_iff_getElem?.1 hy
   exact (hall i y hi').2
end Go.Proofs.YthohnjgnpapnoaaGreatDoor
namespace Go.Proofs.YthohnjgnpapnoaaGreatDoor
open Go.RowKit
theorem flat_few {f:Nat→List Thing} {b:Nat}:∀n,(∀i,i<n→(f i).length≤b)→((List.range n).flatMap f).length≤b*n
 | 0,_=>Nat.zero_le _
 | n+1,h=>by
   have ih:=flat_few n fun i hi=>h i (by omega)
   have h1:=h n (Nat.lt_succ_self n)
   rw [List.range_succ,List.flatMap_append,List.length_append,List.flatMap_singleton,Nat.mul_succ]
   omega
theorem up_nodes {P:Int→Int→Bool} {k:Nat} (hs:Supp P k) {V:List Thing} (h:∀x∈nodes (rootT P k),x∈V):∀m,(∀j,k≤j→j<k+m→∀x∈wrapL P j,x∈V)→∀x∈nodes (rootT P (k+m)),x∈V
 | 0,_,x,hx=>h x hx
 | m+1,hw,x,hx=>by
   have ih:=up_nodes hs h m fun j h1 h2=>hw j h1 (by omega)
   have e:=wrapT_all P (k+m)
   rw [clip_supp (hs.up (Nat.le_add_right k m))] at e
   have hx:x∈nodes (rootT P (k+m+1)):=hx
   rw [e,mem_nodes] at hx
   have key:∀j,j<4→x∈nodes (wrapT P (k+m) j)→x∈V:=fun j hj hh=>by
    rcases wrap_nodes hj hh with q | q
    ·exact hw (k+m) (by omega) (by omega) x q
    ·exact ih x q
   rcases hx with rfl | h' | h' | h' | h'
   ·exact hw (k+m) (by omega) (by omega) _ (by unfold wrapL;simp)
   ·exact key 0 (by decide) h'
   ·exact key 1 (by decide) h'
   ·exact key 2 (by decide) h'
   ·exact key 3 (by decide) h'
theorem setC_few:∀(l:List (Int×Int)) (P:Int→Int→Bool) (k:Nat),Supp P k→okP P→k≤40→(∀c∈l,okC c)→∃V:List Thing,V.length≤45*((setW P k l).2-k)+41*l.length∧∀V',(∀x∈nodes (rootT P k),x∈V')→(∀x∈V,x∈V')→SetC P k l V'∧∀x∈nodes (rootT (setW P k l).1 (setW P k l).2),x∈V'
 | [],P,k,_,_,_,_=>⟨[],Nat.zero_le _,fun V' h _=>⟨trivial,h⟩⟩
 | c::l,P,k,hs,ho,hk,hl=>by
   have hc:=hl c (List.mem_cons_self ..)
   have hu:=upK_max 41 k 40 c (ok_in40 hc) hk
   have hle:=upK_le 41 k c
   have hin:=upK_in 41 k c (inK_up (ok_in40 hc) (by omega))
   have hs2:=supp_set (hs.up hle) hin
   have hl2:∀d∈l,okC d:=fun d hd=>hl d (List.mem_cons_of_mem _ hd)
   obtain ⟨Vr,h1,h2⟩:=setC_few l (setP P c.1 c.2 true) (upK 41 k c) hs2 (ho.set hc) hu hl2
   obtain ⟨_,_,_,hf⟩:=setW_ok l hs2 (ho.set hc) hu hl2
   have hnot:=fun j=>upK_not 41 k j c
   have eW:setW P k (c::l)=setW (setP P c.1 c.2 true) (upK 41 k c) l:=rfl
   have eS:∀V',SetC P k (c::l) V'=(UpC P k c V'∧(∀x∈nodes (rootT (setP P c.1 c.2 true) (upK 41 k c)),x∈V')∧SetC (setP P c.1 c.2 true) (upK 41 k c) l V'):=fun _=>rfl
   generalize upK 41 k c=u at*
   obtain ⟨m,hm⟩:∃m,u=k+m:=⟨u-k,by omega⟩
   have hin2:=hin
   unfold inK at hin2
   have hw2:(2:Int)^(u+1)=2*2^u:=by rw [Int.pow_succ];omega
   obtain ⟨Vp,p1,p2⟩:=put_few P true (u+1) (-2^u) (-2^u) (c.1+2^u) (c.2+2^u) (by rw [hw2];omega) (by rw [hw2];omega)
   rw [rootT_set] at p2
   refine ⟨((List.range m).flatMap fun i=>wrapL P (k+i))++(Vp++Vr),?_,fun V' hn hV=>?_⟩
   ·have hfl:=flat_few (f:=fun i=>wrapL P (k+i)) (b:=45) m fun i hi=>by rw [wrapL_len];omega
    rw [eW,List.length_append,List.length_append,List.length_cons]
    omega
   ·have hwr:∀j,k≤j→j<k+m→∀x∈wrapL P j,x∈V':=fun j h3 h4 x hx=>hV x (List.mem_append_left _ (List.mem_flatMap.2 ⟨j-k,List.mem_range.2 (by omega),by rw [show k+(j-k)=j by omega];exact hx⟩))
    have hup:=up_nodes hs hn m hwr
    have hroot:∀x∈nodes (rootT (setP P c.1 c.2 true) u),x∈V':=fun x hx=>by
     rcases p2 x hx with q | q
     ·exact hup x (by rw [←hm];exact q)
     ·exact hV x (List.mem_append_right _ (List.mem_append_left _ q))
    obtain ⟨g1,g2⟩:=h2 V' hroot fun x hx=>hV x (List.mem_append_right _ (List.mem_append_right _ hx))
    refine ⟨?_,by rw [eW];exact g2⟩
    rw [eS]
    refine ⟨fun j h3 h4 x hx=>hwr j h3 ?_ x hx,hroot,g1⟩
    refine Nat.lt_of_not_le fun q=>h4 (inK_up hin (by omega))
end Go.Proofs.YthohnjgnpapnoaaGreatDoor
namespace Go.Proofs.YthohnjgnpapnoaaGreatDoor
open Go.RowKit
section
variable {H H' : HS} {q : SReq} {t : Nat} {x d : Int} {a : An}
theorem TryF.read' (h:TryF H q t x H') (hv:q.verb=3∨q.verb=5∨q.verb=6):ReadF H q x H':=by
 cases h<;>(try simp only [noVerb] at*)<;>first | assumption | (exfalso;omega)
theorem TryF.none' (h:TryF H q t x H') (hv:noVerb q.verb):ElseF H x H':=by
 cases h<;>(try simp only [noVerb] at*)<;>first | assumption | (exfalso;omega)
theorem TryG.read' (h:TryG H q t d a H') (hv:q.verb=3∨q.verb=5∨q.verb=6):ReadG H q a H':=by
 cases h<;>first | assumption | (exfalso;omega)
theorem TryG.none' (h:TryG H q t d a H') (hv:noVerb q.verb):False:=by
 simp only [noVerb] at hv
 cases h<;>omega
theorem DoR.why (h:DoR H q t d a H') (hn:a.code≠0):∃H1,TryF (markH H t) q t a.code H1:=(h.no hn).2.2.2.2.2
theorem DoR.quota (h:DoR H q t d a H'):H'.S.quota=H.S.quota:=h.oth.quota
theorem DoR.room (h:DoR H q t d a H'):H'.S.room=H.S.room:=h.oth.room
end
end Go.Proofs.YthohnjgnpapnoaaGreatDoor
namespace Go.Proofs.YthohnjgnpapnoaaGreatDoor
open Go.RowKit
theorem setW_mem:∀(l:List (Int×Int)) (P:Int→Int→Bool) (k:Nat) (a b:Int),(setW P k l).1 a b=true↔P a b=true∨(a,b)∈l
 | [],P,k,a,b=>by simp [setW]
 | c::l,P,k,a,b=>by
   have ih:=setW_mem l (setP P c.1 c.2 true) (upK 41 k c) a b
   show (setW (setP P c.1 c.2 true) (upK 41 k c) l).1 a b=true↔_
   rw [ih,List.mem_cons]
   unfold setP
   by_cases e:a=c.1∧b=c.2
   ·obtain ⟨rfl,rfl⟩:=e
    simp
   ·rw [if_neg e]
    have:¬(a,b)=c:=fun h=>e (by rw [←h];exact ⟨rfl,rfl⟩)
    simp [this]
theorem newC_blanks {V:List Thing} (h:∀x∈blanks 2,x∈V):NewC V:=fun x hx=>by
 have e:rootT (setOfL []) 1=emptyT 2:=treeOf_none fun a b _=>by simp [setOfL]
 rw [e,nodes_emptyT] at hx
 exact h x hx
section
variable {S : ArS} {A : Nat → Abs} {a1 a2 a3 a4 a5 a6 a7 : An} {H1 H2 H3 H4 H5 H6 H7 : HS} {r : Int} {l : List (Int × Int)} {d : Int} {t : Nat}
end
end Go.Proofs.YthohnjgnpapnoaaGreatDoor
namespace Go.Proofs.YthohnjgnpapnoaaGreatDoor
open Go.RowKit
structure Wins (b l:Int) (P:Int→Int→Bool) (j M:Nat) (V:List Thing):Prop where
 one:∀Q x y,sqOf (treeOf Q 1 x y)∈V
 full:∀(m i:Nat) (x y:Int),m+1≤j→i*2^m≤2^j→(2:Int)^(m+1)∣x-i*2^m→(2:Int)^(m+1)∣y-i*2^m→sqOf (treeOf (evN b l (i*2^m) P) (m+2) x y)∈V∧((i+1)*2^m≤2^j→Thing.note (treeOf (evN b l (i*2^m) P) (m+2) x y) (codeR b l) m∈V)
 up:∀(m:Nat) (x y:Int),j≤m→m+2≤M→(2:Int)^m∣x→(2:Int)^m∣y→sqOf (treeOf P (m+2) x y)∈V∧Thing.note (treeOf P (m+2) x y) (codeR b l) j∈V
 out:∀(m:Nat) (x y:Int),j≤m→m+2≤M→(2:Int)^m∣x→(2:Int)^m∣y→sqOf (treeOf (evN b l (2^j) P) (m+1) x y)∈V
section
variable {b l : Int} {P : Int → Int → Bool} {j M : Nat} {V : List Thing}
theorem four_tree (Q:Int→Int→Bool) (n:Nat) (x y:Int) {r c:Nat} (hr:r≤2) (hc:c≤2):fourT (gT (treeOf Q (n+2) x y)) r c=treeOf Q (n+1) (x+c*2^n) (y+r*2^n):=
 fourT_of fun r' c' hr' hc'=>gT_of Q n x y (by omega) (by omega)
theorem mid_tree (Q:Int→Int→Bool) (n:Nat) (a d:Int):midT (treeOf Q (n+2) a d)=treeOf Q (n+1) (a+2^n) (d+2^n):=by
 unfold midT
 have:=four_tree Q n a d (r:=1) (c:=1) (by decide) (by decide)
 simpa using this
theorem nine_full (b l:Int) (n:Nat) (Q:Int→Int→Bool) (x y:Int) {r c:Nat} (hr:r≤2) (hc:c≤2):
 resT b l n (fourT (gT (treeOf Q (n+3) x y)) r c) (n:Int)=treeOf (evN b l (2^n) Q) (n+1) (x+2^n+c*2^(n+1)) (y+2^n+r*2^(n+1)):=by
 rw [four_tree Q (n+1) x y hr hc,resT_of b l n Q _ _ n (Nat.le_refl _)]
 congr 1<;>omega
theorem four_full (b l:Int) (n:Nat) (Q:Int→Int→Bool) (x y:Int) {r c:Nat} (hr:r≤1) (hc:c≤1):
 fourT (fun y_1 x_1=>resT b l n (fourT (gT (treeOf Q (n+3) x y)) y_1 x_1) (n:Int)) r c=treeOf (evN b l (2^n) Q) (n+2) (x+2^n+c*2^(n+1)) (y+2^n+r*2^(n+1)):=
 fourT_of fun r' c' hr' hc'=>nine_full b l n Q x y (by omega) (by omega)
theorem four_part (n:Nat) (Q:Int→Int→Bool) (x y:Int) {r c:Nat} (hr:r≤1) (hc:c≤1):
 fourT (fun y_1 x_1=>midT (fourT (gT (treeOf Q (n+3) x y)) y_1 x_1)) r c=treeOf Q (n+2) (x+2^n+c*2^(n+1)) (y+2^n+r*2^(n+1)):=
 fourT_of fun r' c' hr' hc'=>by
  rw [four_tree Q (n+1) x y (by omega) (by omega),mid_tree]
  congr 1<;>omega
theorem pow2_pos (n:Nat):0<2^n:=Nat.two_pow_pos n
theorem clo_full (h:Wins b l P j M V):∀(n i:Nat) (x y:Int),n+1≤j→(i+1)*2^n≤2^j→(2:Int)^(n+1)∣x-i*2^n→(2:Int)^(n+1)∣y-i*2^n→Clo b l n (treeOf (evN b l (i*2^n) P) (n+2) x y) (n:Int) V
 | 0,i,x,y,hn,hi,hx,hy=>by
   obtain ⟨_,h2⟩:=h.full 0 i x y hn (by simp at hi ⊢;omega) hx hy
   refine ⟨h2 hi,?_⟩
   rw [small_of]
   exact h.one _ _ _
 | n+1,i,x,y,hn,hi,hx,hy=>by
   have hp:(2:Int)^(n+1)=2^n*2:=Int.pow_succ 2 n
   have hp2:(2:Int)^(n+2)=2^n*4:=by rw [Int.pow_succ,hp];omega
   have hq:2^(n+1)=2^n*2:=Nat.pow_succ 2 n
   have hpos:=pow2_pos n
   obtain ⟨h1,h2⟩:=h.full (n+1) i x y hn (Nat.le_trans (Nat.mul_le_mul_right _ (Nat.le_succ i)) hi) hx hy
   have hj1:((n+1:Nat):Int)-1=(n:Int):=by omega
   have ei:i*2^(n+1)=(2*i)*2^n:=by rw [hq,←Nat.mul_assoc,Nat.mul_right_comm,Nat.mul_comm i 2]
   have ei2:i*2^(n+1)+2^n=(2*i+1)*2^n:=by rw [ei,Nat.add_mul,Nat.one_mul]
   have ei3:i*2^(n+1)+2^(n+1)=(2*i+2)*2^n:=by rw [ei,hq,Nat.add_mul,Nat.mul_comm 2 (2^n)]
   have le1:(2*i+1+1)*2^n≤2^j:=by
    have:(2*i+1+1)*2^n=(i+1)*2^(n+1):=by rw [hq,show 2*i+1+1=(i+1)*2 by omega,Nat.mul_assoc,Nat.mul_comm 2]
    omega
   have le0:(2*i+1)*2^n≤2^j:=Nat.le_trans (Nat.mul_le_mul_right _ (by omega)) le1
   have cast2:((2*i:Nat):Int)*2^n=(i:Int)*2^(n+1):=by rw [hp];show (2:Int)*i*2^n=_;generalize (2:Int)^n=z;rw [Int.mul_comm z 2,←Int.mul_assoc,Int.mul_comm (i:Int) 2]
   have hx:(2:Int)^(n+2)∣x-i*2^(n+1):=hx
   have hy:(2:Int)^(n+2)∣y-i*2^(n+1):=hy
   obtain ⟨kx,hkx⟩:=hx
   obtain ⟨ky,hky⟩:=hy
   have ex:x=(i:Int)*2^(n+1)+2^(n+2)*kx:=by omega
   have ey:y=(i:Int)*2^(n+1)+2^(n+2)*ky:=by omega
   have e4:∀k:Int,(2:Int)^(n+2)*k=2^(n+1)*(2*k):=fun k=>by rw [hp,hp2];generalize (2:Int)^n=z;rw [Int.mul_assoc z 4 k,Int.mul_assoc z 2 (2*k)];congr 1;omega
   have evS:∀k,evN b l (2^k) (evN b l (i*2^(n+1)) P)=evN b l (i*2^(n+1)+2^k) P:=fun k=>evN_add b l P _ _
   refine ⟨h2 hi,fun r c hr hc=>?_,fun r c hr hc=>?_,?_⟩
   ·rw [four_tree _ (n+1) x y (by omega) (by omega),hj1]
    have dx:(2:Int)^(n+1)∣x+c*2^(n+1)-((2*i:Nat):Int)*2^n:=⟨2*kx+c,by rw [cast2,ex,e4,Int.mul_add,Int.mul_comm (c:Int)];omega⟩
    have dy:(2:Int)^(n+1)∣y+r*2^(n+1)-((2*i:Nat):Int)*2^n:=⟨2*ky+r,by rw [cast2,ey,e4,Int.mul_add,Int.mul_comm (r:Int)];omega⟩
    rw [ei]
    exact ⟨(h.full n (2*i) _ _ (by omega) (by rw [←ei];exact Nat.le_trans (Nat.mul_le_mul_right _ (Nat.le_succ i)) hi) dx dy).1,fun _=>clo_full h n (2*i) _ _ (by omega) le0 dx dy,fun hf=>absurd rfl hf⟩
   ·have hif:((n+1:Nat):Int)=((n+1:Nat):Int):=rfl
    simp only [↓reduceIte,hj1]
    rw [four_full b l n _ x y (by omega) (by omega),evS,ei2]
    have castO:((2*i+1:Nat):Int)*2^n=(i:Int)*2^(n+1)+2^n:=by rw [Int.natCast_add,Int.add_mul,cast2];simp
    have dx:(2:Int)^(n+1)∣x+2^n+c*2^(n+1)-((2*i+1:Nat):Int)*2^n:=⟨2*kx+c,by rw [castO,ex,e4,Int.mul_add,Int.mul_comm (c:Int)];omega⟩
    have dy:(2:Int)^(n+1)∣y+2^n+r*2^(n+1)-((2*i+1:Nat):Int)*2^n:=⟨2*ky+r,by rw [castO,ey,e4,Int.mul_add,Int.mul_comm (r:Int)];omega⟩
    exact ⟨(h.full n (2*i+1) _ _ (by omega) le0 dx dy).1,clo_full h n (2*i+1) _ _ (by omega) le1 dx dy⟩
   ·rw [resT_of b l (n+1) _ x y (n+1) (Nat.le_refl _),evS,ei3]
    have castE:((2*i+2:Nat):Int)*2^n=(i:Int)*2^(n+1)+2^(n+1):=by rw [Int.natCast_add,Int.add_mul,cast2,hp];omega
    have dx:(2:Int)^(n+1)∣x+2^(n+1)-((2*i+2:Nat):Int)*2^n:=⟨2*kx,by rw [castE,ex,e4];omega⟩
    have dy:(2:Int)^(n+1)∣y+2^(n+1)-((2*i+2:Nat):Int)*2^n:=⟨2*ky,by rw [castE,ey,e4];omega⟩
    exact (h.full n (2*i+2) _ _ (by omega) le1 dx dy).1
theorem clo_up (h:Wins b l P j M V):∀(n:Nat) (x y:Int),j≤n→n+2≤M→(2:Int)^n∣x→(2:Int)^n∣y→Clo b l n (treeOf P (n+2) x y) (j:Int) V
 | 0,x,y,hj,hM,hx,hy=>by
   obtain rfl:j=0:=by omega
   refine ⟨(h.up 0 x y (Nat.le_refl _) hM hx hy).2,?_⟩
   rw [small_of]
   exact h.one _ _ _
 | n+1,x,y,hj,hM,hx,hy=>by
   have hp:(2:Int)^(n+1)=2^n*2:=Int.pow_succ 2 n
   have hd:(2:Int)^n∣2^(n+1):=⟨2,hp⟩
   have d1:∀{a:Int} (c:Nat),(2:Int)^(n+1)∣a→(2:Int)^(n+1)∣a+c*2^(n+1):=fun c ha=>Int.dvd_add ha (Int.dvd_mul_left _ _)
   have d2:∀{a:Int} (c:Nat),(2:Int)^(n+1)∣a→(2:Int)^n∣a+2^n+c*2^(n+1):=fun c ha=>Int.dvd_add (Int.dvd_add (Int.dvd_trans hd ha) (Int.dvd_refl _)) (Int.dvd_trans hd (Int.dvd_mul_left _ _))
   have d3:∀{a:Int},(2:Int)^(n+1)∣a→(2:Int)^(n+1)∣a+2^(n+1):=fun ha=>Int.dvd_add ha (Int.dvd_refl _)
   obtain ⟨h1,h2⟩:=h.up (n+1) x y hj hM hx hy
   by_cases hf:j=n+1
   ·subst hf
    have hj1:((n+1:Nat):Int)-1=(n:Int):=by omega
    have hle:∀k,k≤2→k*2^n≤2^(n+1):=fun k hk=>by rw [Nat.pow_succ,Nat.mul_comm (2^n)];exact Nat.mul_le_mul_right _ hk
    have ev0:evN b l (0*2^n) P=P:=by rw [Nat.zero_mul];rfl
    have ev1:evN b l (1*2^n) P=evN b l (2^n) P:=by rw [Nat.one_mul]
    refine ⟨h2,fun r c hr hc=>?_,fun r c hr hc=>?_,?_⟩
    ·rw [four_tree _ (n+1) x y (by omega) (by omega),hj1]
     have dx:(2:Int)^(n+1)∣x+c*2^(n+1)-((0:Nat):Int)*2^n:=by simpa using d1 c hx
     have dy:(2:Int)^(n+1)∣y+r*2^(n+1)-((0:Nat):Int)*2^n:=by simpa using d1 r hy
     have g1:=(h.full n 0 _ _ (Nat.le_refl _) (by simp) dx dy).1
     have g2:=clo_full h n 0 _ _ (Nat.le_refl _) (hle 1 (by decide)) dx dy
     rw [ev0] at g1 g2
     exact ⟨g1,fun _=>g2,fun hf=>absurd rfl hf⟩
    ·simp only [↓reduceIte,hj1]
     rw [four_full b l n _ x y (by omega) (by omega)]
     have dx:(2:Int)^(n+1)∣x+2^n+c*2^(n+1)-((1:Nat):Int)*2^n:=by
      have:=d1 c hx
      rw [show x+2^n+c*2^(n+1)-((1:Nat):Int)*2^n=x+c*2^(n+1) by simp;omega];exact this
     have dy:(2:Int)^(n+1)∣y+2^n+r*2^(n+1)-((1:Nat):Int)*2^n:=by
      have:=d1 r hy
      rw [show y+2^n+r*2^(n+1)-((1:Nat):Int)*2^n=y+r*2^(n+1) by simp;omega];exact this
     have g1:=(h.full n 1 _ _ (Nat.le_refl _) (hle 1 (by decide)) dx dy).1
     have g2:=clo_full h n 1 _ _ (Nat.le_refl _) (hle 2 (by decide)) dx dy
     rw [ev1] at g1 g2
     exact ⟨g1,g2⟩
    ·rw [resT_of b l (n+1) _ x y (n+1) (Nat.le_refl _)]
     exact h.out (n+1) _ _ (Nat.le_refl _) hM (d3 hx) (d3 hy)
   ·have hf':¬(j:Int)=((n+1:Nat):Int):=by omega
    have hjn:j≤n:=by omega
    refine ⟨h2,fun r c hr hc=>?_,fun r c hr hc=>?_,?_⟩
    ·rw [four_tree _ (n+1) x y (by omega) (by omega)]
     refine ⟨(h.up n _ _ hjn (by omega) (Int.dvd_trans hd (d1 c hx)) (Int.dvd_trans hd (d1 r hy))).1,fun hf=>absurd hf hf',fun _=>?_⟩
     rw [mid_tree]
     have ax:x+c*2^(n+1)+2^n=x+2^n+c*2^(n+1):=by omega
     have ay:y+r*2^(n+1)+2^n=y+2^n+r*2^(n+1):=by omega
     cases n with
     | zero=>exact h.one _ _ _
     | succ k=>
       have hk:(2:Int)^k∣2^(k+1):=⟨2,Int.pow_succ 2 k⟩
       by_cases hjk:j≤k
       ·rw [ax,ay]
        exact (h.up k _ _ hjk (by omega) (Int.dvd_trans hk (d2 c hx)) (Int.dvd_trans hk (d2 r hy))).1
       ·obtain rfl:j=k+1:=by omega
        have g:=(h.full k 0 (x+2^(k+1)+c*2^(k+1+1)) (y+2^(k+1)+r*2^(k+1+1)) (Nat.le_refl _) (by simp) (by simpa using d2 c hx) (by simpa using d2 r hy)).1
        rw [show evN b l (0*2^k) P=P by rw [Nat.zero_mul];rfl] at g
        rw [ax,ay]
        exact g
    ·simp only [if_neg hf']
     rw [four_part n _ x y (by omega) (by omega)]
     exact ⟨(h.up n _ _ hjn (by omega) (d2 c hx) (d2 r hy)).1,clo_up h n _ _ hjn (by omega) (d2 c hx) (d2 r hy)⟩
    ·rw [resT_of b l (n+1) _ x y j (by omega)]
     exact h.out (n+1) _ _ hj hM (d3 hx) (d3 hy)
end
end Go.Proofs.YthohnjgnpapnoaaGreatDoor
namespace Go.Proofs.YthohnjgnpapnoaaGreatDoor
open Go.RowKit
end Go.Proofs.YthohnjgnpapnoaaGreatDoor
namespace Go.Proofs.YthohnjgnpapnoaaGreatDoor
open Go.RowKit
theorem flat_len {α β:Type} {f:α→List β} {c:Nat}:∀{l:List α},(∀x∈l,(f x).length=c)→(l.flatMap f).length=l.length*c
 | [],_=>by simp
 | a::l,h=>by
   rw [List.flatMap_cons,List.length_append,h a List.mem_cons_self,flat_len (fun x hx=>h x (List.mem_cons_of_mem _ hx)),List.length_cons,Nat.add_mul]
   omega
def leafB (b:Bool):Tree:=if b then .alive else .dead
def onesL:List Thing:=[false,true].flatMap fun a=>[false,true].flatMap fun b=>[false,true].flatMap fun c=>[false,true].map fun d=>Thing.sq (leafB a) (leafB b) (leafB c) (leafB d)
theorem onesL_len:onesL.length=16:=by rfl
theorem onesL_mem (Q:Int→Int→Bool) (x y:Int):sqOf (treeOf Q 1 x y)∈onesL:=by
 have key:∀a b c d:Bool,Thing.sq (leafB a) (leafB b) (leafB c) (leafB d)∈onesL:=by decide
 exact key (Q x y) (Q (x+2^0) y) (Q x (y+2^0)) (Q (x+2^0) (y+2^0))
theorem pow_dvd2 {m n:Nat} (h:m≤n):(2:Int)^m∣2^n:=⟨2^(n-m),by rw [←Int.pow_add];congr 1;omega⟩
end Go.Proofs.YthohnjgnpapnoaaGreatDoor
namespace Go.Proofs.YthohnjgnpapnoaaGreatDoor
open Go.RowKit
theorem span_empty {P:Int→Int→Bool} {lo hi:Int} (h:Span P lo hi) {n:Nat} {x y:Int} (hne:¬((lo-2^n<x∧x<hi)∧lo-2^n<y∧y<hi)):treeOf P n x y=emptyT n:=by
 refine treeOf_none fun a b hb=>?_
 unfold inB at hb
 cases q:P a b
 ·rfl
 ·have:=h a b q
  exact absurd ⟨⟨by omega,by omega⟩,by omega,by omega⟩ hne
end Go.Proofs.YthohnjgnpapnoaaGreatDoor
namespace Go.Proofs.YthohnjgnpapnoaaGreatDoor
open Go.RowKit
def moveP (dx dy:Int) (P:Int→Int→Bool) (x y:Int):Bool:=P (x-dx) (y-dy)
theorem ev_move (b l dx dy:Int) (P:Int→Int→Bool):ev b l (moveP dx dy P)=moveP dx dy (ev b l P):=by
 funext x y
 unfold ev nearP oneP moveP
 have e:∀a d c:Int,a-d-c=a-c-d∧a+d-c=a-c+d:=fun a d c=>by omega
 simp only [e]
theorem evN_move (b l dx dy:Int) (P:Int→Int→Bool):∀m,evN b l m (moveP dx dy P)=moveP dx dy (evN b l m P)
 | 0=>rfl
 | m+1=>by rw [evN,evN_move b l dx dy P m,ev_move];rfl
end Go.Proofs.YthohnjgnpapnoaaGreatDoor
