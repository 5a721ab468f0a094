/- plane.Bounds. · quad: From. · lifelodgekeep: begun. · lifelodgekeep: begun, as quad's laws need it. · quad: plain laws on roots that are made: how many things there are, that the same root has the same number. · quad: a set of cells with one cell more or less, as a tree. · Numbers as keys of maps. · quad: a walker's memory, map[int]int. -/
import Derived.Test.YthohnjgnpapnoaaGreatDoorR1
import Derived.IntWalk
import Derived.Laws.ResultCell
import Derived.Deep.RegionHeld3
import Derived.Deep.DeepCutAuto
import Derived.Deep.RegionLaw
import Derived.Test.YthohnjgnpapnoaaGreatDoorR14
import Derived.Test.YthohnjgnpapnoaaGreatDoorR15
import Derived.Deep.QuietTactic
import Derived.BigQuiet
import Derived.Test.YthohnjgnpapnoaaGreatDoorR8
import Derived.Test.YthohnjgnpapnoaaGreatDoorR4
set_option linter.unusedVariables false
set_option linter.unusedSimpArgs false
namespace Go.Proofs.YthohnjgnpapnoaaGreatDoor
open Go.RowKit
theorem min_as (a b:Int):min a b=if b<a then b else a:=by omega
theorem max_as (a b:Int):max a b=if a<b then b else a:=by omega
def IsBox (l:List (Int×Int)) (x0 y0 x1 y1:Int):Prop:=
 ((∃c∈l,c.1=x0)∧(∀c∈l,x0≤c.1))∧((∃c∈l,c.2=y0)∧(∀c∈l,y0≤c.2))∧((∃c∈l,c.1=x1)∧(∀c∈l,c.1≤x1))∧((∃c∈l,c.2=y1)∧(∀c∈l,c.2≤y1))
theorem isBox_congr {l m:List (Int×Int)} {x0 y0 x1 y1:Int} (h:IsBox l x0 y0 x1 y1) (hm:∀c,c∈l↔c∈m):IsBox m x0 y0 x1 y1:=by
 obtain ⟨⟨⟨a,a1,a2⟩,a3⟩,⟨⟨b,b1,b2⟩,b3⟩,⟨⟨c,c1,c2⟩,c3⟩,⟨d,d1,d2⟩,d3⟩:=h
 exact ⟨⟨⟨a,(hm a).1 a1,a2⟩,fun e he=>a3 e ((hm e).2 he)⟩,⟨⟨b,(hm b).1 b1,b2⟩,fun e he=>b3 e ((hm e).2 he)⟩,⟨⟨c,(hm c).1 c1,c2⟩,fun e he=>c3 e ((hm e).2 he)⟩,⟨d,(hm d).1 d1,d2⟩,fun e he=>d3 e ((hm e).2 he)⟩
theorem isBox_one (x y:Int):IsBox [(x,y)] x y x y:=by simp [IsBox]
theorem isBox_snoc {l:List (Int×Int)} {x0 y0 x1 y1 cx cy:Int} (h:IsBox l x0 y0 x1 y1):IsBox (l++ [(cx,cy)]) (if cx<x0 then cx else x0) (if cy<y0 then cy else y0) (if x1<cx then cx else x1) (if y1<cy then cy else y1):=by
 obtain ⟨⟨⟨a,a1,a2⟩,a3⟩,⟨⟨b,b1,b2⟩,b3⟩,⟨⟨c,c1,c2⟩,c3⟩,⟨d,d1,d2⟩,d3⟩:=h
 refine ⟨⟨?_,fun e he=>?_⟩,⟨?_,fun e he=>?_⟩,⟨?_,fun e he=>?_⟩,⟨?_,fun e he=>?_⟩⟩
 ·split
  ·exact ⟨(cx,cy),by simp,rfl⟩
  ·exact ⟨a,by simp [a1],a2⟩
 ·simp at he
  rcases he with he | rfl
  ·have:=a3 e he;split<;>omega
  ·dsimp only;split<;>omega
 ·split
  ·exact ⟨(cx,cy),by simp,rfl⟩
  ·exact ⟨b,by simp [b1],b2⟩
 ·simp at he
  rcases he with he | rfl
  ·have:=b3 e he;split<;>omega
  ·dsimp only;split<;>omega
 ·split
  ·exact ⟨(cx,cy),by simp,rfl⟩
  ·exact ⟨c,by simp [c1],c2⟩
 ·simp at he
  rcases he with he | rfl
  ·have:=c3 e he;split<;>omega
  ·dsimp only;split<;>omega
 ·split
  ·exact ⟨(cx,cy),by simp,rfl⟩
  ·exact ⟨d,by simp [d1],d2⟩
 ·simp at he
  rcases he with he | rfl
  ·have:=d3 e he;split<;>omega
  ·dsimp only;split<;>omega
theorem isBox_step {l:List (Int×Int)} {k:Nat} {x0 y0 x1 y1 cx cy m0 n0 m1 n1:Int} (h:IsBox (l[0]! ::l.take k) x0 y0 x1 y1) (hk:k<l.length) (hc:l[k]! =(cx,cy))
 (e1:(if cx<x0 then cx else x0)=m0) (e2:(if cy<y0 then cy else y0)=n0) (e3:(if x1<cx then cx else x1)=m1) (e4:(if y1<cy then cy else y1)=n1):IsBox (l[0]! ::l.take (k+1)) m0 n0 m1 n1:=by
 have:=isBox_snoc (cx:=cx) (cy:=cy) h
 rw [e1,e2,e3,e4] at this
 rw [List.getElem!_eq_getElem?_getD,List.getElem?_eq_getElem hk] at hc
 simp at hc
 rw [List.take_add_one,List.getElem?_eq_getElem hk,hc]
 exact this
theorem isBox_all {l:List (Int×Int)} {n:Nat} {x0 y0 x1 y1:Int} (h:IsBox (l[0]! ::l.take n) x0 y0 x1 y1) (hl:l.length=n) (hn:0<n):IsBox l x0 y0 x1 y1:=by
 refine isBox_congr h fun c=>?_
 rw [List.take_of_length_le (by omega),List.mem_cons]
 constructor
 ·rintro (rfl | h)
  ·rw [List.getElem!_eq_getElem?_getD,List.getElem?_eq_getElem (by omega)];simp
  ·exact h
 ·exact .inr
def BoundsPost (w:World) (l:List (Int×Int)) (e:Ending) (w':World):Prop:=
 ∃x0 y0 x1 y1,e= .returned (.tuple #[.agg #[.int .i64 x0,.int .i64 y0,.int .i64 x1,.int .i64 y1],.bool true])∧IsBox l x0 y0 x1 y1∧Below w.heap.size w w'
theorem bounds_none (w:World) (A:Option Addr) (cap:Nat):
 Calls Tryz.prog 104 #[.slice A 0 cap] w fun e w'=>e= .returned (.tuple #[.agg #[.int .i64 0,.int .i64 0,.int .i64 0,.int .i64 0],.bool false])∧Below w.heap.size w w':=by
 go_enter Tryz.func104,Tryz.ntmps104
 go_wp2
 (try simp only [Exit.inBlock,Exit.then])
 refine bodyPost_ret (v:= .tuple #[.agg #[.int .i64 0,.int .i64 0,.int .i64 0,.int .i64 0],.bool false]) (by rw [results_cell_tmp rfl];go_simp) rfl ?_
 exact ⟨rfl,(Below.refl _ _).alloc (Nat.le_refl _) _⟩
set_option maxRecDepth 100000 in
set_option maxHeartbeats 3200000 in
theorem bounds_any (w:World) (n:Nat) (v:Value) (l:List (Int×Int)) (h:Rd w w.heap.size 2 v n (flat l)) (hn:0<n):
 Calls Tryz.prog 104 #[v] w (BoundsPost w l):=by
 obtain ⟨hl,hat⟩:=h.pairs
 obtain ⟨b,off,cap,rfl,hc1,hc2,hb1,hcs⟩:=hat hn
 have HCS:=Lib.hid hcs
 have HL:=Lib.hid hl
 unfold maxLen at hc2
 obtain ⟨c1,c2⟩:=hcs 0 hn
 have hn0:((n:Int)==0)=false:=by simp;omega
 generalize hc0:l[0]! =c at c1 c2
 obtain ⟨x,y⟩:=c
 have HC0:=Lib.hid hc0
 clear hc0
 clear h hat hl hcs
 rw [Nat.zero_mul,Nat.add_zero] at c1 c2
 have:=World.new_ne w ⟨b,off,none⟩ c1
 have:=World.new_ne w ⟨b,off+1,none⟩ c2
 go_enter Tryz.func104,Tryz.ntmps104
 go_wp2_with fail
 go_region_held3 (fun w'=>w'.cell? ⟨b,off,none⟩=some (.int .i64 x)∧w'.cell? ⟨b,off+1,none⟩=some (.int .i64 y)) (go_keep) (fail)
 go_wp2_with fail
 go_loopw [30] (fun iv wx=>∃(k:Nat) (x0 y0 x1 y1:Int),k≤n∧iv= .int .i64 k∧Blk wx w.heap.size 52 #[.int .i64 0,.int .i64 0,.int .i64 0,.int .i64 0]∧Blk wx (w.heap.size+1) 52 #[.int .i64 x0,.int .i64 y0,.int .i64 x1,.int .i64 y1]∧
  IsBox (l[0]! ::l.take k) x0 y0 x1 y1∧Below w.heap.size w wx) (fun iv _=>n-(intOf iv).toNat)
 case atStart=>
  refine ⟨0,x,y,x,y,Nat.zero_le _,rfl,((Blk.new w _ _).alloc _).drew,?_,by rw [HC0.out];exact isBox_one x y,(((Below.refl _ _).alloc (Nat.le_refl _) _).alloc (by simp) _).drew⟩
  have:=(Blk.new (w.alloc (.cells #[.int .i64 0,.int .i64 0,.int .i64 0,.int .i64 0] 52)) 52 #[.int .i64 x,.int .i64 y,.int .i64 x,.int .i64 y]).drew
  rwa [World.size_alloc] at this
 case round=>
  obtain ⟨k,x0,y0,x1,y1,hk,rfl,hz,hbk,hbox,hb⟩:=hrel
  have HZ:=Lib.hid hz
  have HBK:=Lib.hid hbk
  have HBOX:=Lib.hid hbox
  have HB:=Lib.hid hb
  by_cases hlt:k<n
  ·obtain ⟨c3,c4⟩:=HCS.out k hlt
   rw [←hb.cell (p:=⟨b,off+k*2,none⟩) hb1] at c3
   rw [←hb.cell (p:=⟨b,off+k*2+1,none⟩) hb1] at c4
   have d0:wr.cell? ⟨w.heap.size+1,0,none⟩=some (.int .i64 x0):=hbk.cellS rfl
   have d1:wr.cell? ⟨w.heap.size+1,1,none⟩=some (.int .i64 y0):=hbk.cellS rfl
   have d2:wr.cell? ⟨w.heap.size+1,2,none⟩=some (.int .i64 x1):=hbk.cellS rfl
   have d3:wr.cell? ⟨w.heap.size+1,3,none⟩=some (.int .i64 y1):=hbk.cellS rfl
   have d4:wr.frozen? ⟨w.heap.size+1,0,none⟩=false:=hbk.frozen _
   have d5:wr.frozen? ⟨w.heap.size+1,1,none⟩=false:=hbk.frozen _
   have d6:wr.frozen? ⟨w.heap.size+1,2,none⟩=false:=hbk.frozen _
   have d7:wr.frozen? ⟨w.heap.size+1,3,none⟩=false:=hbk.frozen _
   have hlt1:w.heap.size+1<wr.heap.size:=hbk.lt
   generalize hck:l[k]! =c at c3 c4
   obtain ⟨cx,cy⟩:=c
   have HCK:=Lib.hid hck
   clear hck
   clear hz hbk hbox hb c1 c2
   go_upto_region 7 with fail
   generalize hw2:World.alloc wr _=w2
   have e0:w2.cell? ⟨w.heap.size+1,0,none⟩=some (.int .i64 x0):=by subst hw2;exact (HBK.out.alloc _).cellS rfl
   have e1:w2.cell? ⟨w.heap.size+1,1,none⟩=some (.int .i64 y0):=by subst hw2;exact (HBK.out.alloc _).cellS rfl
   have e2:w2.cell? ⟨w.heap.size+1,2,none⟩=some (.int .i64 x1):=by subst hw2;exact (HBK.out.alloc _).cellS rfl
   have e3:w2.cell? ⟨w.heap.size+1,3,none⟩=some (.int .i64 y1):=by subst hw2;exact (HBK.out.alloc _).cellS rfl
   have e4:w2.frozen? ⟨w.heap.size+1,0,none⟩=false:=by subst hw2;exact (HBK.out.alloc _).frozen _
   have e5:w2.frozen? ⟨w.heap.size+1,1,none⟩=false:=by subst hw2;exact (HBK.out.alloc _).frozen _
   have e6:w2.frozen? ⟨w.heap.size+1,2,none⟩=false:=by subst hw2;exact (HBK.out.alloc _).frozen _
   have e7:w2.frozen? ⟨w.heap.size+1,3,none⟩=false:=by subst hw2;exact (HBK.out.alloc _).frozen _
   have f0:w2.cell? ⟨wr.heap.size,0,none⟩=some (.int .i64 cx):=by subst hw2;exact (Blk.new wr _ _).cellS rfl
   have f1:w2.cell? ⟨wr.heap.size,1,none⟩=some (.int .i64 cy):=by subst hw2;exact (Blk.new wr _ _).cellS rfl
   have hST:w.heap.size+1≠wr.heap.size:=by omega
   have hTS:wr.heap.size≠w.heap.size+1:=by omega
   have HBK2:Hid (Blk w2 (w.heap.size+1) 52 #[.int .i64 x0,.int .i64 y0,.int .i64 x1,.int .i64 y1]):=by subst hw2;exact HBK.out.alloc _
   have HT2:Hid (Blk w2 wr.heap.size 109 #[.int .i64 cx,.int .i64 cy]):=by subst hw2;exact Blk.new wr _ _
   have HZ2:Hid (Blk w2 w.heap.size 52 #[.int .i64 0,.int .i64 0,.int .i64 0,.int .i64 0]):=by subst hw2;exact HZ.out.alloc _
   have HB2:Hid (Below w.heap.size w w2):=by subst hw2;exact HB.out.alloc HB.out.size _
   have hSw:w.heap.size≤w.heap.size+1:=by omega
   have hwS:w.heap.size≠w.heap.size+1:=by omega
   clear d0 d1 d2 d3 d4 d5 d6 d7 c3 c4 hw2
   have HSS:Hid (∃S,S=w.heap.size+1):=⟨_,rfl⟩
   generalize hSS:w.heap.size+1=S at*
   have HSE:=Lib.hid hSS
   clear hSS
   generalize wr.heap.size=T at*
   go_cut [] (fun wx=>∃mx0 mx1,(if cx<x0 then cx else x0)=mx0∧(if x1<cx then cx else x1)=mx1∧Blk wx S 52 #[.int .i64 mx0,.int .i64 y0,.int .i64 mx1,.int .i64 y1]∧Blk wx T 109 #[.int .i64 cx,.int .i64 cy]∧
    Blk wx w.heap.size 52 #[.int .i64 0,.int .i64 0,.int .i64 0,.int .i64 0]∧Below w.heap.size w wx)
   case first=>
    as_aux_lemma=>
    go_region
    (try simp only [min_as,max_as])
    generalize hmx0:(if cx<x0 then cx else x0)=mx0
    generalize hmx1:(if x1<cx then cx else x1)=mx1
    go_wp2_with fail
    go_meet
    exact ⟨mx0,mx1,hmx0,hmx1,((HBK2.out.set 0 _).set 2 _).drew,((HT2.out.far hTS _).far hTS _).drew,((HZ2.out.far hwS _).far hwS _).drew,(Below.setCell (Below.setCell HB2.out (p:=⟨S,0,none⟩) hSw (.int .i64 mx0)) (p:=⟨S,2,none⟩) hSw (.int .i64 mx1)).drew⟩
   case rest=>
    obtain ⟨mx0,mx1,hmx0,hmx1,hbk3,ht3,hz3,hb3⟩:=hcut
    have HMX:=Lib.hid (And.intro hmx0 hmx1)
    have HBK3:=Lib.hid hbk3
    have HT3:=Lib.hid ht3
    have HZ3:=Lib.hid hz3
    have HB3:=Lib.hid hb3
    clear hmx0 hmx1 hbk3 ht3 hz3 hb3
    generalize wc=w3 at*
    have g0:w3.cell? ⟨T,1,none⟩=some (.int .i64 cy):=HT3.out.cellS rfl
    have g1:w3.cell? ⟨S,1,none⟩=some (.int .i64 y0):=HBK3.out.cellS rfl
    have g3:w3.cell? ⟨S,3,none⟩=some (.int .i64 y1):=HBK3.out.cellS rfl
    have g5:w3.frozen? ⟨S,1,none⟩=false:=HBK3.out.frozen _
    have g7:w3.frozen? ⟨S,3,none⟩=false:=HBK3.out.frozen _
    clear e0 e1 e2 e3 e4 e5 e6 e7 f0 f1
    go_upto_region 8 with fail
    go_region
    (try simp only [min_as,max_as])
    generalize hmy0:(if cy<y0 then cy else y0)=my0
    generalize hmy1:(if y1<cy then cy else y1)=my1
    have HMY:=Lib.hid (And.intro hmy0 hmy1)
    clear hmy0 hmy1
    generalize hw4:World.drew _=w4
    have HBK4:Hid (Blk w4 S 52 #[.int .i64 mx0,.int .i64 my0,.int .i64 mx1,.int .i64 my1]):=by subst hw4;exact ((HBK3.out.set 1 _).set 3 _).drew
    have HZ4:Hid (Blk w4 w.heap.size 52 #[.int .i64 0,.int .i64 0,.int .i64 0,.int .i64 0]):=by subst hw4;exact ((HZ3.out.far hwS _).far hwS _).drew
    have HB4:Hid (Below w.heap.size w w4):=by
     subst hw4
     have:=Below.setCell (Below.setCell HB3.out (p:=⟨S,1,none⟩) hSw (.int .i64 my0)) (p:=⟨S,3,none⟩) hSw (.int .i64 my1)
     exact this.drew
    clear hw4 g0 g1 g3 g5 g7 HSS
    have hSS:=HSE.out
    clear HSE
    subst hSS
    go_wp2
    go_roundw
    case rel=>exact ⟨k+1,mx0,my0,mx1,my1,by omega,by go_num,HZ4.out,HBK4.out,isBox_step HBOX.out (by rw [HL.out];exact hlt) HCK.out HMX.out.1 HMY.out.1 HMX.out.2 HMY.out.2,HB4.out⟩
    case measure=>simp [intOf];omega
  ·obtain rfl:k=n:=by omega
   have z0:wr.cell? ⟨w.heap.size,0,none⟩=some (.int .i64 0):=hz.cellS rfl
   have z1:wr.cell? ⟨w.heap.size,1,none⟩=some (.int .i64 0):=hz.cellS rfl
   have z2:wr.cell? ⟨w.heap.size,2,none⟩=some (.int .i64 0):=hz.cellS rfl
   have z3:wr.cell? ⟨w.heap.size,3,none⟩=some (.int .i64 0):=hz.cellS rfl
   have z4:wr.frozen? ⟨w.heap.size,0,none⟩=false:=hz.frozen _
   have z5:wr.frozen? ⟨w.heap.size,1,none⟩=false:=hz.frozen _
   have z6:wr.frozen? ⟨w.heap.size,2,none⟩=false:=hz.frozen _
   have z7:wr.frozen? ⟨w.heap.size,3,none⟩=false:=hz.frozen _
   have d0:wr.cell? ⟨w.heap.size+1,0,none⟩=some (.int .i64 x0):=hbk.cellS rfl
   have d1:wr.cell? ⟨w.heap.size+1,1,none⟩=some (.int .i64 y0):=hbk.cellS rfl
   have d2:wr.cell? ⟨w.heap.size+1,2,none⟩=some (.int .i64 x1):=hbk.cellS rfl
   have d3:wr.cell? ⟨w.heap.size+1,3,none⟩=some (.int .i64 y1):=hbk.cellS rfl
   clear hz hbk hbox hb
   go_wp2
   have HZ5:=Lib.hid ((((HZ.out.set 0 (.int .i64 x0)).set 1 (.int .i64 y0)).set 2 (.int .i64 x1)).set 3 (.int .i64 y1))
   generalize hw5:World.setCell _ _ _=w5
   have q0:w5.cell? ⟨w.heap.size,0,none⟩=some (.int .i64 x0):=by subst hw5;exact HZ5.out.cellS rfl
   have q1:w5.cell? ⟨w.heap.size,1,none⟩=some (.int .i64 y0):=by subst hw5;exact HZ5.out.cellS rfl
   have q2:w5.cell? ⟨w.heap.size,2,none⟩=some (.int .i64 x1):=by subst hw5;exact HZ5.out.cellS rfl
   have q3:w5.cell? ⟨w.heap.size,3,none⟩=some (.int .i64 y1):=by subst hw5;exact HZ5.out.cellS rfl
   have HB5:Hid (Below w.heap.size w w5):=by
    subst hw5
    exact Below.setCell (Below.setCell (Below.setCell (Below.setCell HB.out (p:=⟨w.heap.size,0,none⟩) (Nat.le_refl _) _) (p:=⟨w.heap.size,1,none⟩) (Nat.le_refl _) _) (p:=⟨w.heap.size,2,none⟩) (Nat.le_refl _) _) (p:=⟨w.heap.size,3,none⟩) (Nat.le_refl _) _
   clear hw5 HZ5 z0 z1 z2 z3 z4 z5 z6 z7 d0 d1 d2 d3 c1 c2
   refine bodyPost_ret (v:= .tuple #[.agg #[.int .i64 x0,.int .i64 y0,.int .i64 x1,.int .i64 y1],.bool true]) (by rw [results_cell_tmp rfl];go_simp) rfl ?_
   exact ⟨x0,y0,x1,y1,rfl,isBox_all HBOX.out HL.out hn,HB5.out⟩
end Go.Proofs.YthohnjgnpapnoaaGreatDoor
namespace Go.Proofs.YthohnjgnpapnoaaGreatDoor
open Go.RowKit
def Reach2 (k:Nat) (l:List (Int×Int)):Prop:=∀c∈l,inB (k+1) (-2^k) (-2^k) c.1 c.2
def leastK (l:List (Int×Int)) (k:Nat):Prop:=1≤k∧Reach2 k l∧∀j,1≤j→j<k→¬Reach2 j l
theorem leastK_unique {l l':List (Int×Int)} {k k':Nat} (h:leastK l k) (h':leastK l' k') (hm:∀c,c∈l↔c∈l'):k=k':=by
 obtain ⟨h1,h2,h3⟩:=h
 obtain ⟨g1,g2,g3⟩:=h'
 rcases Nat.lt_trichotomy k k' with q | q | q
 ·exact absurd (fun c hc=>h2 c ((hm c).2 hc)) (g3 k h1 q)
 ·exact q
 ·exact absurd (fun c hc=>g2 c ((hm c).1 hc)) (h3 k' g1 q)
def rootT (P:Int→Int→Bool) (k:Nat):Tree:=treeOf P (k+1) (-2^k) (-2^k)
theorem rootT_lvl (P:Int→Int→Bool) (k:Nat):(rootT P k).lvl=(k:Int)+1:=by unfold rootT;rw [treeOf_lvl];omega
theorem setOfL_same {l l':List (Int×Int)} (h:∀c,c∈l↔c∈l'):setOfL l=setOfL l':=by
 funext a b;unfold setOfL;rw [decide_eq_decide];exact h (a,b)
theorem reach_box {l:List (Int×Int)} {x0 y0 x1 y1:Int} (h:IsBox l x0 y0 x1 y1) (k:Nat):Reach2 k l↔-2^k≤x0∧-2^k≤y0∧x1<2^k∧y1<2^k:=by
 obtain ⟨⟨⟨a,ha,ha2⟩,h1⟩,⟨⟨b,hb,hb2⟩,h2⟩,⟨⟨c,hc,hc2⟩,h3⟩,⟨d,hd,hd2⟩,h4⟩:=h
 unfold Reach2 inB
 rw [Int.pow_succ]
 constructor
 ·intro hr
  have:=hr a ha
  have:=hr b hb
  have:=hr c hc
  have:=hr d hd
  omega
 ·intro hr e he
  have:=h1 e he
  have:=h2 e he
  have:=h3 e he
  have:=h4 e he
  omega
theorem reach_big {l:List (Int×Int)} (hok:∀c∈l,okC c):Reach2 40 l:=fun c hc=>by
 have:=hok c hc
 unfold okC okZ at this
 unfold inB
 rw [show (2:Int)^40=1099511627776 by decide,show (2:Int)^(40+1)=2199023255552 by decide]
 omega
structure Ar (w:World) (p:Nat) (R:ArR) (S:ArS) (A:Nat→Abs):Prop where
 arm:ArM w p R S
 rel:Rel S A
 add:∀u,u<64→((S.added u).length:Int)≤S.count u
theorem Ar.hd {w:World} {p:Nat} {R:ArR} {S:ArS} {A:Nat→Abs} (h:Ar w p R S A) {t:Nat} (ht:t<64) (ty:TypeId) (more:List Value):Hd (w.alloc (.cells (handC p t 0 more) ty)) w.heap.size ty more p R S A t 0:=
 ⟨h.arm.alloc _,Blk.new w ty _,fun ho=>by have:=h.arm.own_lt ho;omega,h.rel,h.add,ht⟩
theorem Ar.below {w w':World} {p:Nat} {R:ArR} {S:ArS} {A:Nat→Abs} (h:Ar w p R S A) (hb:Below w.heap.size w w'):Ar w' p R S A:=⟨h.arm.below hb,h.rel,h.add⟩
theorem Hd.ar {w:World} {hb:Nat} {ty:TypeId} {more:List Value} {p:Nat} {R:ArR} {S:ArS} {A:Nat→Abs} {t:Nat} {bad:Int} (h:Hd w hb ty more p R S A t bad):Ar w p R S A:=⟨h.arm,h.rel,h.add⟩
theorem below_drewN {B:Nat} {w w':World} (h:Below B w w') (n:Nat):Below B w (w'.drewN n):=⟨h.os,h.tape,h.output,h.size,h.block⟩
def NoX:Nat→Prop:=fun _=>False
def RootPost (w:World) (p:Nat) (R:ArR) (S:ArS) (A:Nat→Abs) (t:Nat) (T:Tree) (e:Ending) (w':World):Prop:=
 ∃(r:Int) (S':ArS) (A':Nat→Abs) (R':ArR) (bad':Int),e= .returned (.tuple #[.int .i64 (if bad'=0 then r else 0),.int .i64 bad'])∧Made t (nodes T) S A 0 S' A' bad'∧(bad'=0→Has S' A' t r T)∧Ar w' p R' S' A'∧StepH NoX p R R' w w'
theorem root_post {w w1 w2 w3:World} {p:Nat} {R R1:ArR} {S S1:ArS} {A A1:Nat→Abs} {t:Nat} {T:Tree} {hb:Nat} {ty:TypeId} {more:List Value} {r bad:Int} (hb1:Below w.heap.size w w1) (hn:w.heap.size≤hb) (hm:Made t (nodes T) S A 0 S1 A1 bad) (hh:bad=0→Has S1 A1 t r T) (hd:Hd w2 hb ty more p R1 S1 A1 t bad) (hs:StepH (fun b=>b=hb) p R R1 w1 w2) (hb3:Below w2.heap.size w2 w3):
 RootPost w p R S A t T (.returned (.tuple #[.int .i64 (if bad=0 then r else 0),.int .i64 bad])) w3:=
 ⟨r,S1,A1,R1,bad,rfl,hm,hh,(hd.below hb3).ar,(((StepH.of_below hb1).trans hs).wide fun b hlt e=>by omega).below hb3⟩
def FromPost (w:World) (p:Nat) (R:ArR) (S:ArS) (A:Nat→Abs) (t:Nat) (l:List (Int×Int)) (e:Ending) (w':World):Prop:=
 ∃k,leastK l k∧k≤40∧RootPost w p R S A t (rootT (setOfL l) k) e w'
set_option maxRecDepth 100000 in
set_option maxHeartbeats 3200000 in
theorem from_any (w:World) (p:Nat) (R:ArR) (S:ArS) (A:Nat→Abs) (h:Ar w p R S A) (t:Nat) (ht:t<64) (B m:Nat) (v:Value) (l:List (Int×Int)) (hR:Rd w B 2 v m (flat l)) (hB:B≤w.heap.size) (hm:m≤4096) (hok:∀c∈l,okC c):
 Calls Tryz.prog 71 #[.pointer (some ⟨p,0,none⟩),.int .i64 t,v] w (FromPost w p R S A t l):=by
 have H:=Lib.hid h
 have HT:=Lib.hid (tidy_ok w B m v l hR hB hm hok)
 have HOK:=Lib.hid (reach_big hok)
 have HT4:=Lib.hid ht
 obtain ⟨q,cap,rfl,hc1,hc2⟩:=hR.form
 have HLM:Hid (l.length≤4096):=by have:=hR.pairs.1;show l.length≤4096;omega
 clear h hR hok ht hB
 go_enter Tryz.func71,Tryz.ntmps71
 go_wp2_with fail
 (with_reducible refine HT.out.mono ?_)
 rintro e w1 ⟨q1,m1,s,rfl,hts,hs1,hf1,hb1⟩
 have HTS:=Lib.hid hts
 have HS1:=Lib.hid hs1
 have HB1:=Lib.hid hb1
 have HML:Hid (m1≤4096):=by
  have h1:=tid_length hts
  have h2:=HLM.out
  have h3:=hs1.1
  rw [flat_length] at h3
  show m1≤4096;omega
 have HSL:Hid (setOfL s=setOfL l):=setOfL_same hts.2
 have HSM:Hid (s.length=m1):=by have h3:=hs1.1;rw [flat_length] at h3;show s.length=m1;omega
 clear hts hs1 hf1 hb1 HT
 go_wp2_with fail
 by_cases h0:m1=0
 ·subst h0
  have hs0:s= []:=List.eq_nil_of_length_eq_zero HSM.out
  subst hs0
  have HST:Hid (emptyT 2=rootT (setOfL l) 1):=by
   show emptyT 2=rootT (setOfL l) 1
   rw [←HSL.out];unfold rootT;rw [treeOf_none (fun a b _=>by simp [setOfL])]
  have HLK:Hid (leastK l 1):=⟨Nat.le_refl _,fun c hc=>by have:=congrFun (congrFun HSL.out c.1) c.2;simp [setOfL] at this;exact absurd hc this,fun j h1 h2=>by omega⟩
  (with_reducible refine (bounds_none w1 q1 0).mono ?_)
  rintro e w2 ⟨rfl,hb2⟩
  have HB3:=Lib.hid ((HB1.out.trans (hb2.mono HB1.out.size)).alloc (Nat.le_trans HB1.out.size hb2.size) (.cells #[.int .i64 0,.int .i64 0,.int .i64 0,.int .i64 0] 52))
  have hd4:=(H.out.below HB3.out).hd HT4.out 182 []
  rw [World.size_alloc] at hd4
  change Hd (World.alloc _ (.cells #[.pointer (some ⟨p,0,none⟩),.int .i64 t,.int .i64 0] 182)) _ _ _ _ _ _ _ _ _ at hd4
  have HD:=Lib.hid hd4
  have HB4:=Lib.hid (HB3.out.alloc HB3.out.size (.cells #[.pointer (some ⟨p,0,none⟩),.int .i64 t,.int .i64 0] 182))
  have HHB:Hid (w.heap.size≤w2.heap.size+1):=by have h1:=HB1.out.size;have h2:=hb2.size;show w.heap.size≤w2.heap.size+1;omega
  have HH:Hid (∀W:World,Calls Tryz.prog 105 #[.int .i64 2] W fun e w'=>e= .returned (.int .i64 2)∧W=w'):=fun W=>half_any W 1 (by decide)
  clear hb2 HB1 HS1 HB3 hd4
  go_wp2_with fail
  generalize World.alloc (World.alloc w2 _) _=w4 at HD HB4 ⊢
  generalize w2.heap.size+1=hb at HD HHB ⊢
  (with_reducible refine (HH.out _).mono ?_)
  rintro e wq ⟨rfl,rfl⟩
  go_wp2_with fail
  (with_reducible refine (HH.out _).mono ?_)
  rintro e wq ⟨rfl,rfl⟩
  go_wp2_with fail
  have HBD:Hid (Calls Tryz.prog 107 #[.pointer (some ⟨hb,0,none⟩),.slice q1 0 0,.int .i64 (-2),.int .i64 (-2),.int .i64 2] w4 (HandPost w4 hb 182 [] p R S A t 0 (rootT (setOfL l) 1))):=by
   rw [←HST.out];exact build_none 2 (by decide) w4 hb 182 [] p R S A t 0 HD.out q1 0 (-2) (-2)
  (with_reducible refine HBD.out.mono ?_)
  rintro e w5 ⟨r,S2,A2,R2,bad2,rfl,hm,hh,hd,hst⟩
  have c2:=hd.c2
  have HF:=Lib.hid (fun w6 (hb6:Below w5.heap.size w5 w6)=>root_post (t:=t) HB4.out HHB.out hm hh hd hst hb6)
  clear hm hh hd hst HBD HD
  go_wp2_with fail
  (with_reducible refine (done_any w5 hb bad2 c2 r).mono ?_)
  rintro e w6 ⟨rfl,hb6⟩
  have HF2:=Lib.hid (HF.out w6 hb6)
  clear hb6 HF c2
  generalize (if bad2=0 then r else 0)=rr at HF2 ⊢
  go_wp2_with fail
  go_returns
  exact ⟨1,HLK.out,by decide,HF2.out⟩
 ·(with_reducible refine (bounds_any w1 m1 _ s HS1.out.rd (by omega)).mono ?_)
  rintro e w2 ⟨x0,y0,x1,y1,rfl,hbox,hb2⟩
  have HBOX:=Lib.hid hbox
  have HB2:=Lib.hid (HB1.out.trans (hb2.mono HB1.out.size))
  have HRD2:=Lib.hid (HS1.out.rd.below hb2)
  have hz2:=hb2.size
  clear hbox hb2 h0
  have HK0:=Lib.hid ((Blk.new w2 52 #[.int .i64 x0,.int .i64 y0,.int .i64 x1,.int .i64 y1]))
  have HB3:=Lib.hid (HB2.out.alloc HB2.out.size (.cells #[.int .i64 x0,.int .i64 y0,.int .i64 x1,.int .i64 y1] 52))
  have HRD3:Hid (Rd (w2.alloc (.cells #[.int .i64 x0,.int .i64 y0,.int .i64 x1,.int .i64 y1] 52)) w2.heap.size 2 (.slice q1 m1 m1) m1 (flat s)):=(HRD2.out.more (by exact hz2)).below ((Below.refl _ _).alloc (Nat.le_refl _) _)
  clear HRD2 HB2
  go_wp2_with fail
  generalize World.alloc w2 _=w3 at HK0 HB3 HRD3 ⊢
  have b0:=HK0.out.cellS (i:=0) rfl
  have b1:=HK0.out.cellS (i:=1) rfl
  have b2:=HK0.out.cellS (i:=2) rfl
  have b3:=HK0.out.cellS (i:=3) rfl
  go_loopw [10] (fun lv wx=>∃k:Nat,lv= .int .i64 ((k:Int)+1)∧1≤k∧k≤40∧(∀j,1≤j→j<k→¬Reach2 j s)∧∃d,wx=w3.drewN d) (fun lv _=>41-(intOf lv).toNat)
  case atStart=>exact ⟨1,rfl,Nat.le_refl _,by decide,fun j h1 h2=>by omega,0,rfl⟩
  case round=>
   obtain ⟨k,rfl,hk1,hk2,hk3,hwx⟩:=hrel
   have d0:wr.cell? ⟨w2.heap.size,0,none⟩=some (.int .i64 x0):=by obtain ⟨d,rfl⟩:=hwx;exact b0
   have d1:wr.cell? ⟨w2.heap.size,1,none⟩=some (.int .i64 y0):=by obtain ⟨d,rfl⟩:=hwx;exact b1
   have d2:wr.cell? ⟨w2.heap.size,2,none⟩=some (.int .i64 x1):=by obtain ⟨d,rfl⟩:=hwx;exact b2
   have d3:wr.cell? ⟨w2.heap.size,3,none⟩=some (.int .i64 y1):=by obtain ⟨d,rfl⟩:=hwx;exact b3
   have HWX:=Lib.hid hwx
   clear hwx b0 b1 b2 b3
   have HK:=Lib.hid hk1
   have HK3:=Lib.hid hk3
   have hp1:=pow_i64 (n:=k) (by omega)
   have hp2:=pow_pos2 k
   have HRE:=Lib.hid (reach_box HBOX.out k)
   clear hk3 hk1
   by_cases hre:Reach2 k s
   ·have hr:=HRE.out.1 hre
    obtain ⟨r1,r2,r3,r4⟩:=hr
    have HR:=Lib.hid hre
    clear hre
    have hna:decide (x0< -2^k)=false:=decide_eq_false (by omega)
    have hnb:decide (y0< -2^k)=false:=decide_eq_false (by omega)
    have hnc:decide (2^k≤x1)=false:=decide_eq_false (by omega)
    have hnd:decide (2^k≤y1)=false:=decide_eq_false (by omega)
    go_wp2_with fail
    go_quiet ((go_at_call 105;exact Calls.quiet_of_same ((half_any _ k (by omega)).mono fun _ _ h=>⟨h.1,h.2.symm⟩)))
    have HB4:Hid (Below w.heap.size w (wr.drewN nq)):=by obtain ⟨d,hd⟩:=HWX.out;show Below w.heap.size w (wr.drewN nq);rw [hd];exact below_drewN (below_drewN HB3.out d) nq
    have HRD4:Hid (Rd (wr.drewN nq) w2.heap.size 2 (.slice q1 m1 m1) m1 (flat s)):=by obtain ⟨d,hd⟩:=HWX.out;show Rd (wr.drewN nq) w2.heap.size 2 (.slice q1 m1 m1) m1 (flat s);rw [hd];exact HRD3.out
    have HSZ:Hid (w2.heap.size≤(wr.drewN nq).heap.size):=by obtain ⟨d,hd⟩:=HWX.out;show w2.heap.size≤(wr.drewN nq).heap.size;rw [hd];exact Nat.le_of_lt HK0.out.lt
    clear hna hnb hnc hnd r1 r2 r3 r4 d0 d1 d2 d3 HWX
    generalize wr.drewN nq=w4 at HB4 HRD4 HSZ ⊢
    have hd4:=(H.out.below HB4.out).hd HT4.out 182 []
    change Hd (World.alloc _ (.cells #[.pointer (some ⟨p,0,none⟩),.int .i64 t,.int .i64 0] 182)) _ _ _ _ _ _ _ _ _ at hd4
    have HD:=Lib.hid hd4
    have HB5:=Lib.hid (HB4.out.alloc HB4.out.size (.cells #[.pointer (some ⟨p,0,none⟩),.int .i64 t,.int .i64 0] 182))
    have HHB:Hid (w.heap.size≤w4.heap.size):=HB4.out.size
    have HRD5:Hid (Rd (w4.alloc (.cells #[.pointer (some ⟨p,0,none⟩),.int .i64 t,.int .i64 0] 182)) (w4.alloc (.cells #[.pointer (some ⟨p,0,none⟩),.int .i64 t,.int .i64 0] 182)).heap.size 2 (.slice q1 m1 m1) m1 (flat s)):=
     ((HRD4.out.more HSZ.out).below ((Below.refl _ _).alloc (Nat.le_refl _) _)).more (by rw [World.size_alloc];omega)
    clear hd4 HB4 HRD4 HSZ
    go_wp2_with fail
    generalize World.alloc w4 _=w5 at HD HB5 HRD5 ⊢
    generalize w4.heap.size=hb at HD HHB ⊢
    (with_reducible refine (half_any w5 k (by omega)).mono ?_)
    rintro e wq ⟨rfl,rfl⟩
    go_wp2_with fail
    (with_reducible refine (half_any w5 k (by omega)).mono ?_)
    rintro e wq ⟨rfl,rfl⟩
    go_wp2_with fail
    have hp40:(2:Int)^k≤2^40:=by
     have h1:=Nat.pow_le_pow_right (n:=2) (by decide) hk2
     have h2:((2^k:Nat):Int)≤((2^40:Nat):Int):=Int.ofNat_le.2 h1
     simpa using h2
    have hbd:=build_any (k+1) (by omega) w5 hb 182 [] p R S A t 0 HD.out _ m1 s HRD5.out (by have:=HML.out;omega) (-2^k) (-2^k) (by rw [show (2:Int)^40=1099511627776 by decide] at hp40;omega) (by rw [Int.pow_succ];rw [show (2:Int)^40=1099511627776 by decide] at hp40;omega) (by rw [show (2:Int)^40=1099511627776 by decide] at hp40;omega) (by rw [Int.pow_succ];rw [show (2:Int)^40=1099511627776 by decide] at hp40;omega) HR.out
    rw [HSL.out,show ((k+1:Nat):Int)=(k:Int)+1 by omega] at hbd
    have HBD:Hid (Calls Tryz.prog 107 #[.pointer (some ⟨hb,0,none⟩),.slice q1 m1 m1,.int .i64 (-2^k),.int .i64 (-2^k),.int .i64 ((k:Int)+1)] w5 (HandPost w5 hb 182 [] p R S A t 0 (rootT (setOfL l) k))):=hbd
    clear hbd hp40
    (with_reducible refine HBD.out.mono ?_)
    rintro e w6 ⟨r,S2,A2,R2,bad2,rfl,hm,hh,hd,hst⟩
    have c2:=hd.c2
    have HF:=Lib.hid (fun w7 (hb7:Below w6.heap.size w6 w7)=>root_post (t:=t) HB5.out HHB.out hm hh hd hst hb7)
    clear hm hh hd hst HBD HD
    go_wp2_with fail
    (with_reducible refine (done_any w6 hb bad2 c2 r).mono ?_)
    rintro e w7 ⟨rfl,hb7⟩
    have HF2:=Lib.hid (HF.out w7 hb7)
    have HLK:Hid (leastK l k):=⟨HK.out,fun c hc=>HR.out c ((tid_mem HTS.out c).2 hc),fun j h1 h2 h3=>HK3.out j h1 h2 fun c hc=>h3 c ((tid_mem HTS.out c).1 hc)⟩
    clear hb7 HF c2
    generalize (if bad2=0 then r else 0)=rr at HF2 ⊢
    go_wp2_with fail
    go_returns
    exact ⟨k,HLK.out,hk2,HF2.out⟩
   ·have HNR:=Lib.hid hre
    have hr:x0< -2^k∨y0< -2^k∨2^k≤x1∨2^k≤y1:=by
     have:¬(-2^k≤x0∧-2^k≤y0∧x1<2^k∧y1<2^k):=fun h=>hre (HRE.out.2 h)
     omega
    have hk40:Hid (k+1≤40):=by
     show k+1≤40
     rcases Nat.lt_or_ge k 40 with h | h
     ·exact h
     ·have:k=40:=by omega
      subst this
      exact absurd (fun c hc=>HOK.out c ((tid_mem HTS.out c).1 hc)) hre
    have HKN:Hid (∀j,1≤j→j<k+1→¬Reach2 j s):=fun j h1 h2=>by
     rcases Nat.lt_succ_iff_lt_or_eq.1 h2 with h | h
     ·exact HK3.out j h1 h
     ·rw [h];exact HNR.out
    have hlv:IntKind.i64.wrap ((k:Int)+1+1)=(k:Int)+1+1:=by rw [IntKind.wrap_i64];omega
    clear hre
    by_cases ha:x0< -2^k
    ·have hta:decide (x0< -2^k)=true:=decide_eq_true ha
     clear hr
     go_wp2_with fail
     go_quiet ((go_at_call 105;exact Calls.quiet_of_same ((half_any _ k (by omega)).mono fun _ _ h=>⟨h.1,h.2.symm⟩)))
     go_wp2_with fail
     go_roundw
     case rel=>
      obtain ⟨d,hd⟩:=HWX.out
      exact ⟨k+1,by go_num,by omega,hk40.out,HKN.out,d+nq,by rw [hd,World.drewN_drewN]⟩
     case measure=>simp [intOf];have:=hk40.out;omega
    ·have hna:decide (x0< -2^k)=false:=decide_eq_false ha
     by_cases hb:y0< -2^k
     ·have htb:decide (y0< -2^k)=true:=decide_eq_true hb
      clear hr ha
      go_wp2_with fail
      go_quiet ((go_at_call 105;exact Calls.quiet_of_same ((half_any _ k (by omega)).mono fun _ _ h=>⟨h.1,h.2.symm⟩)))
      go_wp2_with fail
      go_roundw
      case rel=>
       obtain ⟨d,hd⟩:=HWX.out
       exact ⟨k+1,by go_num,by omega,hk40.out,HKN.out,d+nq,by rw [hd,World.drewN_drewN]⟩
      case measure=>simp [intOf];have:=hk40.out;omega
     ·have hnb:decide (y0< -2^k)=false:=decide_eq_false hb
      by_cases hc:2^k≤x1
      ·have htc:decide (2^k≤x1)=true:=decide_eq_true hc
       clear hr ha hb
       go_wp2_with fail
       go_quiet ((go_at_call 105;exact Calls.quiet_of_same ((half_any _ k (by omega)).mono fun _ _ h=>⟨h.1,h.2.symm⟩)))
       go_wp2_with fail
       go_roundw
       case rel=>
        obtain ⟨d,hd⟩:=HWX.out
        exact ⟨k+1,by go_num,by omega,hk40.out,HKN.out,d+nq,by rw [hd,World.drewN_drewN]⟩
       case measure=>simp [intOf];have:=hk40.out;omega
      ·have hnc:decide (2^k≤x1)=false:=decide_eq_false hc
       have hd:2^k≤y1:=by omega
       have htd:decide (2^k≤y1)=true:=decide_eq_true hd
       clear hr ha hb hc
       go_wp2_with fail
       go_quiet ((go_at_call 105;exact Calls.quiet_of_same ((half_any _ k (by omega)).mono fun _ _ h=>⟨h.1,h.2.symm⟩)))
       go_wp2_with fail
       go_roundw
       case rel=>
        obtain ⟨d,hd⟩:=HWX.out
        exact ⟨k+1,by go_num,by omega,hk40.out,HKN.out,d+nq,by rw [hd,World.drewN_drewN]⟩
       case measure=>simp [intOf];have:=hk40.out;omega
end Go.Proofs.YthohnjgnpapnoaaGreatDoor
namespace Go.Proofs.YthohnjgnpapnoaaGreatDoor
open Go.RowKit
theorem begun_join {r x:Int} {S':ArS} (hj:JoinR (newA 200000 64) 63 1 0 0 1 r x S'):r=2∧x=0∧S'.count 63=1∧(∃A,Rel S' A∧∀t,t<4→A t=⟨[],[]⟩)∧S'.room=200000∧S'.live≤1∧∀t,t<4→S'.added t= []:=by
 have hA:=newA_rel (room:=200000) (by decide) 64
 have d0:Den (newA 200000 64) 1 .alive:=by simp only [Den]
 have d1:Den (newA 200000 64) 0 .dead:=by simp only [Den]
 have four:∀j,j<4→j=0∨j=1∨j=2∨j=3:=fun j hj=>by omega
 have lv1:=d0.level hA.inv
 have lv0:=d1.level hA.inv
 have ow:∀j,j<4→ownsB (newA 200000 64) 63 (qAt 1 0 0 1 j) 0=true:=fun j hj=>by
  rcases four j hj with rfl | rfl | rfl | rfl<;>rfl
 cases hj with
 | none j hj ho=>rw [ow j hj] at ho;cases ho
 | level j _ hj hl=>
   exfalso
   simp only [Tree.lvl] at lv1 lv0
   rcases hl with hl | hl
   ·rcases four j hj with rfl | rfl | rfl | rfl
    ·exact hl rfl
    ·exact hl (show levelOf _ 0=_ by rw [lv0,lv1])
    ·exact hl (show levelOf _ 0=_ by rw [lv0,lv1])
    ·exact hl rfl
   ·omega
 | gives r x S' ho hl hlt hgr=>
   have hok:(⟨0,1,0,0,1⟩:KeyA).ok:=by
    refine ⟨⟨?_,?_⟩,⟨?_,?_⟩,⟨?_,?_⟩,⟨?_,?_⟩,⟨?_,?_⟩⟩<;>decide
   obtain ⟨g1,g2,g3,g4,g5,g6,g7⟩:=hA.give (t:=63) (by decide) (x:= .sq .alive .dead .dead .alive) hok (by rw [lv1];simp only [Tree.lvl];decide) (show (0:Int)<200000 by decide) ⟨rfl,by rw [lv1],d0,d1,d1,d0⟩ trivial ⟨rfl,rfl,rfl,rfl⟩ hgr
   have hq:(newA 200000 64).quota 63=200000:=rfl
   have ha:aGive ⟨[],[]⟩ ((newA 200000 64).quota 63) (.sq .alive .dead .dead .alive)=(0,⟨[.sq .alive .dead .dead .alive],[.sq .alive .dead .dead .alive]⟩):=by
    rw [hq];unfold aGive;rw [if_neg (by simp),if_neg (by simp)];rfl
   have g1:x=(aGive ⟨[],[]⟩ ((newA 200000 64).quota 63) (.sq .alive .dead .dead .alive)).1:=g1
   rw [ha] at g1
   have g2:Rel S' (upd (fun _=>⟨[],[]⟩) 63 (aGive ⟨[],[]⟩ ((newA 200000 64).quota 63) (.sq .alive .dead .dead .alive)).2):=g2
   rw [ha] at g2
   refine ⟨?_,g1,?_,⟨_,g2,fun t ht=>by rw [upd_ne _ _ (by omega)]⟩,g6,by have:(newA 200000 64).live=0:=rfl;omega,fun t ht=>?_⟩
   ·cases hgr with
    | has i e hi=>cases hi
    | much _ hq=>cases hq
    | joins i e hi=>cases hi
    | full S0 n _ _ hr=>exact absurd hr (by decide)
    | makes S0 S1 i _ _ hs hr ht2=>
      rcases hs with ⟨_,rfl⟩ | ⟨hr2,_⟩
      ·rcases ht2 with ⟨fr,hp,_⟩ | ⟨_,hi,_⟩
       ·have:=hp.length_eq;simp [newA] at this
       ·rw [hi];rfl
      ·exact absurd hr2 (by decide)
   ·rw [g2.count (by decide),upd_same];rfl
   ·cases hgr with
    | has i e hi=>cases hi
    | much _ hq=>cases hq
    | joins i e hi=>cases hi
    | full S0 n _ _ hr=>exact absurd hr (by decide)
    | makes S0 S1 i _ _ hs hr ht2=>
      rcases hs with ⟨_,rfl⟩ | ⟨hr2,_⟩
      ·have hk:=ht2.keeps
       unfold gainS
       split
       ·show upd (newS S1 i _ _ _).added 63 _ t= []
        rw [upd_ne _ _ (by omega)]
        show S1.added t= []
        rw [hk.2.2.2.2.2.1];rfl
       ·show S1.added t= []
        rw [hk.2.2.2.2.2.1];rfl
      ·exact absurd hr2 (by decide)
end Go.Proofs.YthohnjgnpapnoaaGreatDoor
namespace Go.Proofs.YthohnjgnpapnoaaGreatDoor
open Go.RowKit
def firstT:Thing:= .sq .alive .dead .dead .alive
def BegunQ (w:World) (e:Ending) (w':World):Prop:=
 ∃(p:Nat) (R:ArR) (S:ArS) (A:Nat→Abs),e= .returned (.tuple #[.pointer (some ⟨p,0,none⟩),.bool true])∧Ar w' p R S A∧(∀t,t≠63→A t=⟨[],[]⟩)∧S.room=200000∧(∀t,t<64→S.quota t=200000)∧Within S [firstT]∧Below w.heap.size w w'∧∀b,Own p R b→w.heap.size≤b
theorem begunQ_join {r x:Int} {S':ArS} (hj:JoinR (newA 200000 64) 63 1 0 0 1 r x S'):∃A,Rel S' A∧(∀t,t≠63→A t=⟨[],[]⟩)∧S'.room=200000∧(∀t,t<64→S'.quota t=200000)∧Within S' [firstT]∧∀u,u<64→((S'.added u).length:Int)≤S'.count u:=by
 have hA:=newA_rel (room:=200000) (by decide) 64
 have d0:Den (newA 200000 64) 1 .alive:=by simp only [Den]
 have d1:Den (newA 200000 64) 0 .dead:=by simp only [Den]
 obtain ⟨A',hm,_⟩:=hA.joinG (t:=63) (n:=0) (by decide) d0 d1 d1 d0 rfl rfl rfl rfl rfl rfl rfl rfl (by decide) hj
 have hq:∀t,t<64→(newA 200000 64).quota t=200000:=fun t ht=>by simp [newA,ht]
 obtain ⟨_,hw,_⟩:=hm.enough [firstT] (fun i x hd=>by
  obtain ⟨e,_,hx⟩:=hd.ent
  cases hx) (fun x hx=>by simpa [nodes,firstT] using hx) (by show (1:Int)<200000;decide) (by rw [hq 63 (by decide)];show (1:Int)<200000;decide)
 exact ⟨A',hm.st.rel,fun t ht=>hm.st.oth t ht,hm.st.room,fun t ht=>by rw [hm.st.quota];exact hq t ht,hw,hm.st.add fun u _=>Int.le_refl _⟩
set_option maxRecDepth 100000 in
set_option maxHeartbeats 3200000 in
theorem begunQ_any (w:World):Calls Tryz.prog 42 #[] w (BegunQ w):=by
 go_enter Tryz.func42,Tryz.ntmps42
 go_wp2_with fail
 (with_reducible refine (new_any w 200000 (by decide)).mono ?_)
 rintro e w1 ⟨p,R,rfl,hA,hB,hO⟩
 have HA:=Lib.hid hA
 have HB:=Lib.hid hB
 have HO:=Lib.hid hO
 clear hA hB hO
 go_wp2_with fail
 have hI:=newA_inv (room:=200000) (by decide) 64
 have hjn:Calls Tryz.prog 68 #[.pointer (some ⟨p,0,none⟩),.int .i64 63,.agg #[.int .i64 1,.int .i64 0,.int .i64 0,.int .i64 1]] w1 (JoinPost w1 p R (newA 200000 64) 63 1 0 0 1):=join_any w1 p R (newA 200000 64) HA.out hI rfl 63 (by decide) (Nat.zero_le _) 1 0 0 1
 (with_reducible refine hjn.mono ?_)
 rintro e w2 ⟨r,x,S2,R2,rfl,hj,hA2,hS2⟩
 obtain ⟨A2,g1,g2,g3,g4,g5,g6⟩:=begunQ_join hj
 obtain ⟨rfl,rfl,hc,_⟩:=begun_join hj
 have HA2:=Lib.hid hA2
 have HC:=Lib.hid hc
 have HG:=Lib.hid (And.intro (Ar.mk hA2 g1 g6) (And.intro g2 (And.intro g3 (And.intro g4 g5))))
 have HB2:Hid (Below w.heap.size w w2):=HB.out.trans (hS2.mod.below HB.out.size fun b hb ho=>absurd (HO.out b ho) (by omega))
 have HO2:Hid (∀b,Own p R2 b→w.heap.size≤b):=fun b hb=>by
  rcases hS2.own b hb with h1 | h1
  ·exact HO.out b h1
  ·exact Nat.le_trans HB.out.size h1
 clear hI hjn hj hA2 hS2 hc g1 g2 g3 g4 g5 g6
 go_wp2_with fail
 have hcn:Calls Tryz.prog 24 #[.pointer (some ⟨p,0,none⟩),.int .i64 63] w2 fun e w'=>e= .returned (.int .i64 (S2.count 63))∧w2=w':=count_any w2 p R2 S2 HA2.out 63 (by decide)
 (with_reducible refine hcn.mono ?_)
 rintro e wq ⟨rfl,rfl⟩
 rw [HC.out]
 go_wp2_with fail
 go_returns
 exact ⟨p,R2,S2,A2,rfl,HG.out.1,HG.out.2.1,HG.out.2.2.1,HG.out.2.2.2.1,HG.out.2.2.2.2,HB2.out,HO2.out⟩
end Go.Proofs.YthohnjgnpapnoaaGreatDoor
namespace Go.Proofs.YthohnjgnpapnoaaGreatDoor
open Go.RowKit
theorem nodup_len {α:Type} {l l':List α} (h:l.Nodup) (h':l'.Nodup) (hm:∀x,x∈l↔x∈l'):l.length=l'.length:=
 Nat.le_antisymm (List.Nodup.length_le_of_subset h fun x hx=>(hm x).1 hx) (List.Nodup.length_le_of_subset h' fun x hx=>(hm x).2 hx)
theorem Den.nodes {S:ArS}:∀{T:Tree} {id:Int},Den S id T→∀x∈nodes T,∃i:Nat,DenT S i x
 | .dead,_,_,x,hx=>by simp [Go.Proofs.YthohnjgnpapnoaaGreatDoor.nodes] at hx
 | .alive,_,_,x,hx=>by simp [Go.Proofs.YthohnjgnpapnoaaGreatDoor.nodes] at hx
 | .node a b c d,id,hd,x,hx=>by
   have hd2:=hd
   simp only [Den] at hd
   obtain ⟨i,e,rfl,h4,h5,h6,h7,g0,g1,g2,g3⟩:=hd
   rcases mem_nodes.1 hx with rfl | k | k | k | k
   ·exact ⟨i,hd2⟩
   ·exact Den.nodes g0 x k
   ·exact Den.nodes g1 x k
   ·exact Den.nodes g2 x k
   ·exact Den.nodes g3 x k
section
variable {S S1 S2 : ArS} {A A1 A2 : Nat → Abs} {t u : Nat} {T : Tree} {p q : Int}
end
end Go.Proofs.YthohnjgnpapnoaaGreatDoor
namespace Go.Proofs.YthohnjgnpapnoaaGreatDoor
open Go.RowKit
def setP (P:Int→Int→Bool) (a b:Int) (v:Bool):Int→Int→Bool:=fun c d=>if c=a∧d=b then v else P c d
theorem setP_ne {P:Int→Int→Bool} {a b c d:Int} {v:Bool} (h:¬(c=a∧d=b)):setP P a b v c d=P c d:=by unfold setP;rw [if_neg h]
def subT (P:Int→Int→Bool) (n:Nat) (X Y:Int) (k:Nat):Tree:=treeOf P n (gx (2^n) X k) (gy (2^n) Y k)
theorem subT_all (P:Int→Int→Bool) (n:Nat) (X Y:Int):treeOf P (n+1) X Y= .node (subT P n X Y 0) (subT P n X Y 1) (subT P n X Y 2) (subT P n X Y 3):=by
 simp [treeOf,subT,gx,gy]
theorem subT_lvl (P:Int→Int→Bool) (n:Nat) (X Y:Int) (k:Nat):(subT P n X Y k).lvl=n:=treeOf_lvl _ _ _ _
def qk (n:Nat) (x y:Int):Nat:=(if 2^n≤x then 1 else 0)+(if 2^n≤y then 2 else 0)
def qx (n:Nat) (x:Int):Int:=if 2^n≤x then x-2^n else x
theorem qk_lt (n:Nat) (x y:Int):qk n x y<4:=by unfold qk;split<;>split<;>omega
theorem qx_bd {n:Nat} {x:Int} (h:0≤x∧x<2^(n+1)):0≤qx n x∧qx n x<2^n:=by
 rw [Int.pow_succ] at h
 unfold qx;split<;>omega
theorem gx_qx (n:Nat) (X x y:Int):gx (2^n) X (qk n x y)+qx n x=X+x:=by
 unfold gx qk qx
 by_cases h1:2^n≤x<;>by_cases h2:2^n≤y<;>simp [h1,h2]<;>omega
theorem gy_qx (n:Nat) (Y x y:Int):gy (2^n) Y (qk n x y)+qx n y=Y+y:=by
 unfold gy qk qx
 by_cases h1:2^n≤x<;>by_cases h2:2^n≤y<;>simp [h1,h2]<;>omega
theorem subT_other {P:Int→Int→Bool} {n:Nat} {X Y x y:Int} {v:Bool} {k:Nat} (hx:0≤x∧x<2^(n+1)) (hy:0≤y∧y<2^(n+1)) (hk:k<4) (hne:k≠qk n x y):subT (setP P (X+x) (Y+y) v) n X Y k=subT P n X Y k:=
 treeOf_congr fun a b hb=>setP_ne fun e=>hne (by
  have hp:=pow_pos2 n
  rw [Int.pow_succ] at hx hy
  obtain ⟨rfl,rfl⟩:=e
  unfold inB gx gy at hb
  unfold qk
  rcases (by omega:k=0∨k=1∨k=2∨k=3) with rfl | rfl | rfl | rfl
  ·simp at hb;rw [if_neg (by omega),if_neg (by omega)]
  ·simp at hb;rw [if_pos (by omega),if_neg (by omega)]
  ·simp at hb;rw [if_neg (by omega),if_pos (by omega)]
  ·simp at hb;rw [if_pos (by omega),if_pos (by omega)])
theorem subT_here {P:Int→Int→Bool} {n:Nat} {X Y x y:Int} {v:Bool}:subT (setP P (X+x) (Y+y) v) n X Y (qk n x y)=treeOf (setP P (gx (2^n) X (qk n x y)+qx n x) (gy (2^n) Y (qk n x y)+qx n y) v) n (gx (2^n) X (qk n x y)) (gy (2^n) Y (qk n x y)):=by
 rw [gx_qx,gy_qx];rfl
theorem put_few (P:Int→Int→Bool) (v:Bool):∀(n:Nat) (X Y x y:Int),0≤x∧x<2^n→0≤y∧y<2^n→∃V:List Thing,V.length≤n∧∀z∈nodes (treeOf (setP P (X+x) (Y+y) v) n X Y),z∈nodes (treeOf P n X Y)∨z∈V
 | 0,X,Y,x,y,_,_=>⟨[],Nat.le_refl _,fun z hz=>by
   simp only [treeOf] at hz
   split at hz<;>simp [nodes] at hz⟩
 | n+1,X,Y,x,y,hx,hy=>by
   obtain ⟨V,h1,h2⟩:=put_few P v n (gx (2^n) X (qk n x y)) (gy (2^n) Y (qk n x y)) (qx n x) (qx n y) (qx_bd hx) (qx_bd hy)
   refine ⟨.sq (subT (setP P (X+x) (Y+y) v) n X Y 0) (subT (setP P (X+x) (Y+y) v) n X Y 1) (subT (setP P (X+x) (Y+y) v) n X Y 2) (subT (setP P (X+x) (Y+y) v) n X Y 3)::V,by simp;omega,fun z hz=>?_⟩
   rw [subT_all,mem_nodes] at hz
   rw [subT_all,mem_nodes,List.mem_cons]
   have key:∀k,k<4→z∈nodes (subT (setP P (X+x) (Y+y) v) n X Y k)→z∈nodes (subT P n X Y k)∨z∈V:=fun k hk hz=>by
    by_cases e:k=qk n x y
    ·subst e
     rw [subT_here] at hz
     exact h2 z hz
    ·rw [subT_other hx hy hk e] at hz;exact .inl hz
   rcases hz with h | h | h | h | h
   ·exact .inr (.inl h)
   ·rcases key 0 (by decide) h with q | q
    ·exact .inl (.inr (.inl q))
    ·exact .inr (.inr q)
   ·rcases key 1 (by decide) h with q | q
    ·exact .inl (.inr (.inr (.inl q)))
    ·exact .inr (.inr q)
   ·rcases key 2 (by decide) h with q | q
    ·exact .inl (.inr (.inr (.inr (.inl q))))
    ·exact .inr (.inr q)
   ·rcases key 3 (by decide) h with q | q
    ·exact .inl (.inr (.inr (.inr (.inr q))))
    ·exact .inr (.inr q)
end Go.Proofs.YthohnjgnpapnoaaGreatDoor
namespace Go.Proofs.YthohnjgnpapnoaaGreatDoor
open Go.RowKit Go.ChangeMaps Go.WideElems Go.WideMaps
theorem Tryz.lawIntK:Maps.Keyed Tryz.prog 3:=Maps.int_keyed Tryz.underlying3
theorem keyOf_i {x:Int} (h:i64r x):keyOf Tryz.prog 3 (.int .i64 x)=some (.int .i64 x):=Maps.keyOf_int_mk Tryz.underlying3 h.wf
def mapSize (w:World) (b:Nat):Nat:=match w.heap[b]? with | some (.map es _)=>es.size | _=>0
end Go.Proofs.YthohnjgnpapnoaaGreatDoor
namespace Go.Proofs.YthohnjgnpapnoaaGreatDoor
open Go.RowKit Go.ChangeMaps Go.WideElems Go.WideMaps
def MapN (w:World) (b:Nat) (K:List Int) (m:Int→Int):Prop:=
 ∃D:DataW Unit,w.ownsMap Tryz.prog 3 (plainElem Tryz.prog 3) b K.length D∧Maps.size D=K.length∧∀x,i64r x→Maps.has D (.int .i64 x)=decide (x∈K)∧D.atKey (.int .i64 x) (.lit (.int .i64 0))= .lit (.int .i64 (m x))
section
variable {w w' : World} {b : Nat} {K : List Int} {m : Int → Int}
theorem MapN.of_block (h:MapN w b K m) (e:w'.heap[b]? =w.heap[b]?):MapN w' b K m:=by obtain ⟨D,h1,h2⟩:=h;exact ⟨D,ownsMap_blockK h1 e,h2⟩
theorem MapN.lt (h:MapN w b K m):b<w.heap.size:=by obtain ⟨D,h1,_⟩:=h;exact h1.lt
theorem MapN.made (w:World):MapN (w.alloc (.map #[] 0)) w.heap.size [] (fun _=>0):=⟨_,World.ownsMap_made w _ _ _,rfl,fun x _=>⟨by simp [Maps.has],rfl⟩⟩
theorem MapN.mod {T:Nat→Prop} (h:MapN w b K m) (hm:Mod T w w') (hT:¬T b):MapN w' b K m:=h.of_block (hm.block _ h.lt hT)
theorem MapN.ne (h:MapN w b K m) {p t:Nat} {cs:Array Value} (hp:Blk w p t cs):b≠p:=by
 rintro rfl
 obtain ⟨D,⟨es,clock,hb,_⟩,_⟩:=h
 unfold Blk at hp
 rw [hb] at hp
 cases hp
set_option maxRecDepth 100000 in
theorem MapN.look (h:MapN w b K m) {x:Int} (hx:i64r x):(Instr.lookup 234 (.map (some b)) (.int .i64 x) false).run Tryz.prog w= .ok (.int .i64 (m x)) w:=by
 obtain ⟨D,hown,_,h1⟩:=h
 obtain ⟨c,hrun,hat,_⟩:=hown.lookup_int Tryz.lawIntK Tryz.underlying234 Tryz.underlying3 (Tryz.zeroIntK w) (keyOf_i hx)
 rw [(h1 x hx).2] at hat
 injection hat with hat
 injection hat with _ hat
 rw [hrun,hat]
set_option maxRecDepth 100000 in
theorem MapN.look_ok (h:MapN w b K m) {x:Int} (hx:i64r x):(Instr.lookup 234 (.map (some b)) (.int .i64 x) true).run Tryz.prog w= .ok (.tuple #[.int .i64 (m x),.bool (decide (x∈K))]) w:=by
 obtain ⟨D,hown,_,h1⟩:=h
 obtain ⟨v,ps,hrun,hv⟩:=hown.look_ok Tryz.lawIntK Tryz.underlying234 (Tryz.zeroIntK w) (plainElem_int Tryz.underlying3 (by decide)) (keyOf_i hx)
 obtain ⟨y,rfl,hy,_⟩:=plainElem_int_inv Tryz.underlying3 hv
 simp only [Prod.mk.injEq] at hy
 have hat:=hy.1
 rw [(h1 x hx).2] at hat
 injection hat with hat
 injection hat with _ hat
 rw [hrun,(h1 x hx).1,hat]
set_option maxRecDepth 100000 in
theorem MapN.put (h:MapN w b K m) {x v:Int} (hx:i64r x) (hc:K.length<maxLen) (hv:i64r v):
 ∃w',(Instr.mapUpdate 234 (.map (some b)) (.int .i64 x) (.int .i64 v)).run Tryz.prog w= .ok () w'∧MapN w' b (if x∈K then K else x::K) (fun y=>if y=x then v else m y)∧Mod (fun q=>q=b) w w':=by
 obtain ⟨D,hown,hs,h1⟩:=h
 obtain ⟨w',u1,u2,u3⟩:=hown.store Tryz.lawIntK Tryz.underlying234 hc (keyOf_i hx) (plainElem_int Tryz.underlying3 hv.wf)
 have hsz:Maps.size (D.put (.int .i64 x) (.lit (.int .i64 v)))=(if x∈K then K else x::K).length:=by
  rw [Maps.size_put (hown.tidy Tryz.lawIntK),hs,(h1 x hx).1]
  by_cases e:x∈K
  ·simp [e]
  ·simp [e]
 refine ⟨w',u1,⟨_,?_,hsz,fun y hy=>?_⟩,turned_modK u3⟩
 ·have:=ownsMap_tight u2
  rw [hsz] at this;exact this
 ·by_cases e:y=x
  ·subst e
   refine ⟨?_,?_⟩
   ·rw [Maps.has_put_same hown.isMap (show WideAt.IsKeyLit (.int .i64 y) from trivial)]
    by_cases e2:y∈K
    ·simp [e2]
    ·simp [e2]
   ·rw [Maps.atKey_put_same hown.isMap (show WideAt.IsKeyLit (.int .i64 y) from trivial)];simp
  ·have hne:(Lit.int .i64 y)≠(.int .i64 x):=by intro e2;injection e2 with _ e2;exact e e2
   refine ⟨?_,?_⟩
   ·rw [Maps.has_put_other hne,(h1 y hy).1]
    by_cases e2:x∈K
    ·simp [e2]
    ·simp [e2,e]
   ·rw [Maps.atKey_put_other hne,(h1 y hy).2];simp only [e,if_false]
end
end Go.Proofs.YthohnjgnpapnoaaGreatDoor
