/- slices.Clone, slices.SortFunc (by the shelf's contract), slices.Clip at []api.Cell. · slices.Compact at []api.Cell: the walk. · plane.Tidy. · The statements' own helper same. · The statements' own helper same; lists in order. -/
import Derived.Test.YthohnjgnpapnoaaGreatDoorR1
import Derived.Test.YthohnjgnpapnoaaGreatDoorR14
import Derived.Test.YthohnjgnpapnoaaGreatDoorR11
import Derived.Deep.DeepCutAuto
import Derived.IntWalk
set_option linter.unusedVariables false
set_option linter.unusedSimpArgs false
namespace Go.Proofs.YthohnjgnpapnoaaGreatDoor
open Go.RowKit Go.Shelf Go.Sort Go.Lib
def encC (x:Int×Int):List Value:=[.int .i64 x.1,.int .i64 x.2]
theorem sortWorld_heap (w:World) (blk off m:Nat) (d:Array (Int×Int)) (os:Array Obj):
 (sortWorldK encC 2 w blk off m d os).heap=(w.heap.modify blk (onCells (putCells id off (flatK encC 2 d))))++os:=rfl
theorem rowC_sort {w:World} {t blk off m:Nat} {d d':Array (Int×Int)} {os:Array Obj} (h:RowC w t blk off d.size (fun i=>d[i]!)) (hs:d'.size=d.size):
 RowC (sortWorldK encC 2 w blk off m d' os) t blk off d.size (fun i=>d'[i]!)∧Mod (fun k=>k=blk) w (sortWorldK encC 2 w blk off m d' os):=by
 obtain ⟨cs,h1,h2,h3⟩:=h
 have hlt:=h1.lt
 unfold Blk at h1
 have hsz:(w.heap.modify blk (onCells (putCells id off (flatK encC 2 d')))).size=w.heap.size:=by simp
 constructor
 ·refine ⟨putCells id off (flatK encC 2 d') cs,?_,by unfold putCells;simpa using h2,fun i hi=>?_⟩
  ·unfold Blk
   rw [sortWorld_heap,Array.getElem?_append,if_pos (by rw [hsz];exact hlt),Array.getElem?_modify,if_pos rfl,h1]
   rfl
  ·have key:∀j,j<2→(putCells id off (flatK encC 2 d') cs)[off+i*2+j]? =some (encC d'[i]!)[j]! :=by
    intro j hj
    have hlt2:off+i*2+j<cs.size:=by omega
    unfold putCells
    rw [Array.getElem?_mapIdx,Array.getElem?_eq_getElem hlt2]
    simp only [Option.map_some,size_flatK,id]
    rw [if_pos (by omega),get_flatK encC 2 d' _ (by omega)]
    rw [show (off+i*2+j-off)/2=i by omega,show (off+i*2+j-off)%2=j by omega]
   exact ⟨by have:=key 0 (by omega);simpa [encC] using this,by have:=key 1 (by omega);simpa [encC] using this⟩
 ·refine ⟨rfl,rfl,rfl,?_,fun k hk hne=>?_⟩
  ·rw [sortWorld_heap,Array.size_append,hsz];omega
  ·rw [sortWorld_heap,Array.getElem?_append,if_pos (by rw [hsz];exact hk),Array.getElem?_modify,if_neg (by omega)]
theorem holds_rowC {w:World} {t blk off:Nat} {d:Array (Int×Int)} (h:RowC w t blk off d.size (fun i=>d[i]!)):HoldsK encC 2 w blk off d:=by
 intro j hj
 rw [size_flatK] at hj
 refine ⟨?_,h.frozen _⟩
 rw [get_flatK encC 2 d j hj]
 rcases (show j=j/2*2∨j=j/2*2+1 by omega) with e | e
 ·have:=h.cell1 (i:=j/2) (by omega)
  rw [←e] at this
  rw [this,show j%2=0 by omega];rfl
 ·have:=h.cell2 (i:=j/2) (by omega)
  rw [Nat.add_assoc,←e] at this
  rw [this,show j%2=1 by omega];rfl
theorem ltOf_true (a b:Int×Int):ltOf ordZ a b=true↔ltC a b:=by unfold ltOf;rw [decide_eq_true_eq];exact ordZ_neg a b
theorem ltOf_false (a b:Int×Int):ltOf ordZ a b=false↔¬ltC a b:=by rw [←ltOf_true];simp
theorem swoC:SWO (ltOf ordZ) where
 irrefl x:=by rw [ltOf_false];simp [ltC]
 trans x y z h1 h2:=by rw [ltOf_true] at*;unfold ltC at*;omega
 ntrans x y z h1 h2:=by rw [ltOf_false] at*;unfold ltC at*;omega
def SortPost (w:World) (b off n:Nat) (F:Nat→Int×Int) (e:Ending) (w':World):Prop:=
 e= .returned (.tuple #[])∧∃F',((List.range n).map F').Perm ((List.range n).map F)∧(∀i j,i<j→j<n→¬ltC (F' j) (F' i))∧RowC w' 109 b off n F'∧Mod (fun k=>k=b) w w'
theorem sort_any (w:World) (b off n cap:Nat) (F:Nat→Int×Int) (h:RowC w 109 b off n F) (hn:n<4611686018427387904):
 Calls Tryz.prog 51 #[.slice (some ⟨b,off,none⟩) n cap,.func (.func 52) #[] #[]] w (SortPost w b off n F):=by
 have eg:∀args w,(callFunc 52 args).run Tryz.prog w= .ok (.enter 52 args) w:=enters_of Tryz.func52 (by kernel_rfl) rfl
 obtain ⟨d,hd⟩:∃d,d=((List.range n).map F).toArray:=⟨_,rfl⟩
 have hds:d.size=n:=by rw [hd];simp
 have hdF:∀i,i<n→d[i]! =F i:=by
  intro i hi;rw [hd,getElem!_pos _ i (by simpa using hi)];simp
 have hrow:RowC w 109 b off d.size (fun i=>d[i]!):=by rw [hds];exact h.congr fun i hi=>(hdF i hi).symm
 have hcon:=AnyQ.slices_SortFunc Tryz.sortCell 2 Tryz.isAgg109 Tryz.sizeOf109 encC (fun _=>rfl) (fun x v hv=>by simp [encC] at hv;rcases hv with rfl | rfl<;>rfl) ordZ swoC 52 #[] b off cap d w eg
  (fun _ _ _ _ x y=>order_any x y _) (holds_rowC hrow) h.lt (by omega)
 change Calls Tryz.prog 51 _ _ _ at hcon
 rw [hds] at hcon
 refine hcon.mono ?_
 rintro e w' ⟨rfl,d',m,os,hp,hst,rfl⟩
 refine ⟨rfl,fun i=>d'[i]!,?_,?_,?_⟩
 ·obtain ⟨p1,_,p3⟩:=hp
  have e1:(d'.extract 0 n).toList=(List.range n).map fun i=>d'[i]! :=by
   apply List.ext_getElem
   ·simp;omega
   ·intro i a1 a2
    simp at a2
    simp [getElem!_pos d' i (by omega)]
  have e2:(d.extract 0 n).toList=(List.range n).map F:=by
   rw [hd];simp
   apply List.take_of_length_le;simp
  rw [e1,e2] at p3
  exact p3
 ·intro i j hij hj hlt
  have:=hst i j (Nat.zero_le _) hij hj
  exact (ltOf_false _ _).1 this hlt
 ·have:=rowC_sort (m:=m) (os:=os) hrow (hp.1)
  rw [hds] at this
  exact this
theorem ins_none (w:World) (A:Option Addr) (cap:Nat) (fv:Value):
 Calls Tryz.prog 118 #[.slice A 0 cap,.int .i64 0,.int .i64 0,fv] w fun e w'=>e= .returned (.tuple #[])∧w=w':=by
 go_enter Tryz.func118,Tryz.ntmps118
 go_wp2
 refine wp_loop_rounds 1 ?_
 rw [rounds_succ]
 go_wp2
 go_end0
 exact ⟨rfl,rfl⟩
set_option maxRecDepth 100000 in
theorem pdq_none (w:World) (A:Option Addr) (cap:Nat) (lim:Int) (fv:Value):
 Calls Tryz.prog 81 #[.slice A 0 cap,.int .i64 0,.int .i64 0,.int .i64 lim,fv] w fun e w'=>e= .returned (.tuple #[])∧w=w':=by
 go_enter Tryz.func81,Tryz.ntmps81
 go_wp2
 refine wp_loop_rounds 1 ?_
 rw [rounds_succ]
 go_wp2_with (go_at_call 118;refine (ins_none _ _ _ _).mono ?_;rintro e w' ⟨rfl,rfl⟩)
 (try simp only [Exit.inBlock,Exit.then]);refine bodyPost_ret (results_none rfl _ _ _) rfl ?_
 exact ⟨rfl,rfl⟩
theorem len64_zero (w:World):Calls Tryz.prog 127 #[.int .u64 0] w fun e w'=>(∃l,e= .returned (.int .i64 l))∧w=w':=by
 go_enter Tryz.func127,Tryz.ntmps127
 go_wp2
 go_ret
 exact ⟨⟨_,rfl⟩,rfl⟩
theorem len_zero (w:World):Calls Tryz.prog 82 #[.int .u64 0] w fun e w'=>(∃l,e= .returned (.int .i64 l))∧w=w':=by
 go_enter Tryz.func82,Tryz.ntmps82
 go_wp2_with (go_at_call 127;refine (len64_zero _).mono ?_;rintro e w' ⟨⟨l,rfl⟩,rfl⟩)
 go_ret
 exact ⟨⟨_,rfl⟩,rfl⟩
theorem sort_none (w:World) (A:Option Addr) (cap:Nat) (fv:Value):
 Calls Tryz.prog 51 #[.slice A 0 cap,fv] w fun e w'=>e= .returned (.tuple #[])∧w=w':=by
 go_enter Tryz.func51,Tryz.ntmps51
 go_wp2_with (first
  | (go_at_call 82;refine (len_zero _).mono ?_;rintro e w' ⟨⟨l,rfl⟩,rfl⟩)
  | (go_at_call 81;refine (pdq_none _ _ _ _ _).mono ?_;rintro e w' ⟨rfl,rfl⟩))
 go_end0
 exact ⟨rfl,rfl⟩
theorem clone_any (w:World) (B n:Nat) (v:Value) (l:List (Int×Int)) (h:Rd w B 2 v n (flat l)) (hB:B≤w.heap.size) (hn:n*16≤140737488355328):
 Calls Tryz.prog 50 #[v] w fun e w'=>∃v',e= .returned v'∧Sl w' 109 2 v' n (flat l)∧(∀b,sblk v'=some b→w.heap.size≤b)∧Below w.heap.size w w':=by
 obtain ⟨A,cap,rfl,hc1,hc2⟩:=h.form
 have q22:∀(w:World) (a:Option Addr) (n c n' c':Nat),(binOp .eql 55 (.slice a n c) (.slice none n' c')).run Tryz.prog w= .ok (.bool a.isNone) w:=fun w a n c n' c'=>Lib.run_eql_slice_nil w _ _ a n c n' c' Tryz.underlying55
 cases A with
 | none=>
   have hn0:n=0:=by
    rcases Nat.eq_zero_or_pos n with e | e
    ·exact e
    ·obtain ⟨b,off,cap',he,_⟩:=h.at e;cases he
   subst hn0
   have hl:flat l= []:=List.eq_nil_of_length_eq_zero (by simpa using h.1)
   rw [hl]
   clear hl h
   go_enter Tryz.func50,Tryz.ntmps50
   go_wp2
   go_ret
   exact ⟨_,rfl,Sl.nil _ _ _,fun b hb=>by simp [sblk] at hb,Below.refl _ _⟩
 | some ad=>
   have hr:Rd (w.alloc (.cells #[] 109)) B 2 (.slice (some ad) n cap) n (flat l):=h.keep fun b hb=>Below.heap_alloc w _ b (by omega)
   have hsl:Sl (w.alloc (.cells #[] 109)) 109 2 (.slice (some ⟨w.heap.size,0,none⟩) 0 0) 0 []:=
    ⟨rfl,_,_,rfl,Nat.le_refl _,Nat.zero_le _,(fun h=>nomatch h),fun a ha=>by injection ha with ha;subst ha;exact ⟨#[],rfl,Blk.new _ _ _,by simp,rfl⟩⟩
   have HR:=Lib.hid hr
   have HSL:=Lib.hid hsl
   unfold maxLen at hc2
   clear h hr hsl
   go_enter Tryz.func50,Tryz.ntmps50
   go_wp2_with (at_builtin;refine wpList_append_sl _ rfl (.tmp 5) (.tmp 6) 55 rfl 109 (.agg #[.int .i64 0,.int .i64 0]) 2 16 Tryz.underlying55 Tryz.info109 rfl (by decide) rfl HSL.out rfl HR.out flat_one (by omega) (by unfold maxLen;omega) ?_;intro v' w1 hs1 hm1 hd1)
   go_ret
   refine ⟨v',rfl,by simpa using hs1,fun b hb=>?_,?_⟩
   ·rcases hd1 with e | ⟨e,_⟩
    ·rw [e] at hb;have hb':some w.heap.size=some b:=hb;injection hb' with hb';omega
    ·rw [e] at hb;simp at hb;omega
   ·exact ((Below.refl _ w).alloc (Nat.le_refl _) _).trans (hm1.below (by simp) (fun b hb he=>by have he':some w.heap.size=some b:=he;injection he' with he';omega))
theorem clip_any (w:World) (A:Option Addr) (n cap:Nat) (h:n≤cap) (_hm:cap≤maxLen):
 Calls Tryz.prog 53 #[.slice A n cap] w fun e w'=>e= .returned (.slice A n n)∧w=w':=by
 unfold maxLen at _hm
 go_enter Tryz.func53,Tryz.ntmps53
 go_wp2
 go_ret
 exact ⟨rfl,rfl⟩
end Go.Proofs.YthohnjgnpapnoaaGreatDoor
namespace Go.Proofs.YthohnjgnpapnoaaGreatDoor
open Go.RowKit
theorem wpList_clear {P:Program} {w w':World} {ops:Array Oper} {rest:List Oper} {o:Oper} {a:Act} {Q:Exit→Act→World→Prop} (hgd:o.guard=none) (s:Operand) (t:TypeId)
 (ho:o.op= .call {callee:= .builtin .clear,args:=#[s],argTypes:=#[t]}) {v:Value} (hs:a.eval s=v)
 (hrun:(Builtin.clear_ #[t] o.type #[v]).run P w= .ok (.tuple #[]) w') (h:wpList P ops Q rest (a.put o.dst (.tuple #[])) w'):wpList P ops Q (o::rest) a w:=
 wpList_plain hgd fun _ hK=>by
  unfold Oper.wp execOp
  simp only [ho,resolve,invoke,builtin,Sem.run_bind,Sem.run_pure,Result.andThen_ok,List.map_toArray,List.map_cons,List.map_nil,hs,hrun]
  exact hK _ _ h
def kept (F:Nat→Int×Int) (j:Nat):List (Int×Int):=compactL ((List.range j).map F)
theorem kept_succ (F:Nat→Int×Int) (j:Nat):kept F (j+1)=compStep (kept F j) (F j):=by
 unfold kept;rw [List.range_succ,List.map_append];exact compactL_snoc _ _
theorem kept_last (F:Nat→Int×Int) (j:Nat):(kept F (j+1)).getLast? =some (F j):=by
 unfold kept;rw [compactL_last,List.range_succ,List.map_append];simp
theorem kept_eq (F:Nat→Int×Int) (j:Nat) (h:F (j+1)=F j):kept F (j+2)=kept F (j+1):=by
 rw [kept_succ];unfold compStep;rw [kept_last,if_pos (by rw [h])]
theorem kept_ne (F:Nat→Int×Int) (j:Nat) (h:F (j+1)≠F j):kept F (j+2)=kept F (j+1)++ [F (j+1)]:=by
 rw [kept_succ];unfold compStep;rw [kept_last,if_neg (by intro e;injection e with e;exact h e.symm)]
theorem kept_all (F:Nat→Int×Int) (j:Nat) (h:∀i,i<j→F (i+1)≠F i):kept F (j+1)=(List.range (j+1)).map F:=by
 induction j with
 | zero=>rfl
 | succ j ih=>rw [kept_ne F j (h j (by omega)),ih (fun i hi=>h i (by omega)),List.range_succ (n:=j+1),List.map_append];rfl
def CompPost (w:World) (b off n cap:Nat) (F:Nat→Int×Int) (e:Ending) (w':World):Prop:=
 ∃m F',e= .returned (.slice (some ⟨b,off,none⟩) m cap)∧m≤n∧(List.range m).map F'=kept F n∧RowC w' 109 b off n F'∧Mod (fun k=>k=b) w w'
set_option maxHeartbeats 1600000 in
theorem compact_any (w:World) (b off n cap:Nat) (F:Nat→Int×Int) (h:RowC w 109 b off n F) (hnc:n≤cap) (hcap:cap≤maxLen) (h2:2≤n):
 Calls Tryz.prog 54 #[.slice (some ⟨b,off,none⟩) n cap] w (CompPost w b off n cap F):=by
 unfold maxLen at hcap
 go_enter Tryz.func54,Tryz.ntmps54
 go_wp2
 go_loopw [3] (fun iv wx=>∃(p d:Nat),p+1≤n∧iv= .int .i64 ((p:Int)+1)∧wx=w.drewN d∧∀j,j<p→F (j+1)≠F j) (fun iv _=>n-(intOf iv).toNat)
 case atStart=>exact ⟨0,0,by omega,rfl,rfl,fun j hj=>absurd hj (by omega)⟩
 case round=>
  obtain ⟨p,d,hp,rfl,rfl,hne⟩:=hrel
  have HNE:=Lib.hid hne
  have HR:=Lib.hid (h.drewN d)
  clear hne
  by_cases hlt:p+1<n
  ·have c1:w.cell? ⟨b,off+p*2,none⟩=some (.int .i64 (F p).1):=h.cell1 (by omega)
   have c2:w.cell? ⟨b,off+p*2+1,none⟩=some (.int .i64 (F p).2):=h.cell2 (by omega)
   have c3:w.cell? ⟨b,off+(p+1)*2,none⟩=some (.int .i64 (F (p+1)).1):=h.cell1 hlt
   have c4:w.cell? ⟨b,off+(p+1)*2+1,none⟩=some (.int .i64 (F (p+1)).2):=h.cell2 hlt
   by_cases he:F (p+1)=F p
   ·have hq:∀w,_:=fun w=>run_eqC (F (p+1)) (F p) w
    rw [(eqC_true _ _).2 he] at hq
    have HE:=Lib.hid he
    clear he
    go_wp2_with fail
    go_quiet (fail)
    go_wp2_with fail
    generalize hw1:World.drewN w _=w1
    have HR1:Hid (RowC w1 109 b off n F):=by subst hw1;exact h.drewN _
    have HM1:Hid (Mod (fun k=>k=b) w w1):=by subst hw1;exact (Mod.refl _ w).drewN _
    clear hw1 c1 c2 c3 c4 hq
    go_loopw [3,5] (fun iv kv wx=>∃(m q:Nat) (G:Nat→Int×Int),iv= .int .i64 m∧kv= .int .i64 ((q:Int)+1)∧p+1+q<n∧m≤p+1+q∧(List.range m).map G=kept F (p+1+q+1)∧
     (∀j,p+1+q≤j→G j=F j)∧RowC wx 109 b off n G∧Mod (fun k=>k=b) w wx) (fun _ kv _=>n-(intOf kv).toNat)
    case atStart=>exact ⟨p+1,0,F,by go_num,rfl,by omega,Nat.le_refl _,by rw [kept_eq F p HE.out,kept_all F p HNE.out],fun _ _=>rfl,HR1.out,HM1.out⟩
    case round=>
     obtain ⟨m,q,G,rfl,rfl,hq,hm,hk,hG,hR,hM⟩:=hrel
     have HK:=Lib.hid hk
     have HG:=Lib.hid hG
     have HR2:=Lib.hid hR
     have HM2:=Lib.hid hM
     clear hk hG hM
     by_cases hlt2:p+1+q+1<n
     ·have c1:wr.cell? ⟨b,off+(p+1)*2+q*2,none⟩=some (.int .i64 (F (p+1+q)).1):=by
       have:=hR.cell1 (i:=p+1+q) (by omega);rw [HG.out _ (Nat.le_refl _)] at this
       rwa [show off+(p+1)*2+q*2=off+(p+1+q)*2 by omega]
      have c2:wr.cell? ⟨b,off+(p+1)*2+q*2+1,none⟩=some (.int .i64 (F (p+1+q)).2):=by
       have:=hR.cell2 (i:=p+1+q) (by omega);rw [HG.out _ (Nat.le_refl _)] at this
       rwa [show off+(p+1)*2+q*2=off+(p+1+q)*2 by omega]
      have c3:wr.cell? ⟨b,off+(p+1)*2+(q+1)*2,none⟩=some (.int .i64 (F (p+1+q+1)).1):=by
       have:=hR.cell1 (i:=p+1+q+1) (by omega);rw [HG.out _ (by omega)] at this
       rwa [show off+(p+1)*2+(q+1)*2=off+(p+1+q+1)*2 by omega]
      have c4:wr.cell? ⟨b,off+(p+1)*2+(q+1)*2+1,none⟩=some (.int .i64 (F (p+1+q+1)).2):=by
       have:=hR.cell2 (i:=p+1+q+1) (by omega);rw [HG.out _ (by omega)] at this
       rwa [show off+(p+1)*2+(q+1)*2=off+(p+1+q+1)*2 by omega]
      by_cases he2:F (p+1+q+1)=F (p+1+q)
      ·have hqe:∀w,_:=fun w=>run_neC (F (p+1+q+1)) (F (p+1+q)) w
       rw [(eqC_true _ _).2 he2] at hqe
       have HE2:=Lib.hid he2
       clear he2 hR
       go_wp2_with fail
       go_quiet (fail)
       go_wp2
       go_roundw
       case rel=>exact ⟨m,q+1,G,rfl,by go_num,by omega,by omega,by rw [HK.out];exact (kept_eq F (p+1+q) HE2.out).symm,fun j hj=>HG.out j (by omega),HR2.out.drewN _,HM2.out.drewN _⟩
       case measure=>simp [intOf];omega
      ·have hqe:∀w,_:=fun w=>run_neC (F (p+1+q+1)) (F (p+1+q)) w
       rw [(eqC_false _ _).2 he2] at hqe
       have HE2:=Lib.hid he2
       clear he2
       go_wp2_with fail
       go_quiet (fail)
       go_upto_region 12 with fail
       generalize hw2:World.drewN wr _=w2
       have hR3:RowC w2 109 b off n G:=by subst hw2;exact HR2.out.drewN _
       have HM3:Hid (Mod (fun k=>k=b) w w2):=by subst hw2;exact HM2.out.drewN _
       have HR3:=Lib.hid hR3
       have d1:w2.cell? ⟨b,off+m*2,none⟩=some (.int .i64 (G m).1):=hR3.cell1 (by omega)
       have d2:w2.cell? ⟨b,off+m*2+1,none⟩=some (.int .i64 (G m).2):=hR3.cell2 (by omega)
       have d3:w2.frozen? ⟨b,off+m*2,none⟩=false:=hR3.frozen _
       have d4:w2.frozen? ⟨b,off+m*2+1,none⟩=false:=hR3.frozen _
       have c3:w2.cell? ⟨b,off+(p+1)*2+(q+1)*2,none⟩=some (.int .i64 (F (p+1+q+1)).1):=by subst hw2;exact c3
       have c4:w2.cell? ⟨b,off+(p+1)*2+(q+1)*2+1,none⟩=some (.int .i64 (F (p+1+q+1)).2):=by subst hw2;exact c4
       clear hw2 hR hR3
       go_wp2
       go_roundw
       case rel=>
        refine ⟨m+1,q+1,fun j=>if j=m then ((F (p+1+q+1)).1,(F (p+1+q+1)).2) else G j,by go_num,by go_num,by omega,by omega,?_,fun j hj=>?_,HR3.out.set (by omega) _ _,(HM3.out.set (fun _=>rfl) _).set (fun _=>rfl) _⟩
        ·rw [show p+1+(q+1)+1=p+1+q+2 by omega,kept_ne F (p+1+q) HE2.out,←HK.out,List.range_succ,List.map_append]
         congr 1
         ·apply List.map_congr_left;intro j hj;simp at hj;rw [if_neg (by omega)]
         ·simp
        ·show (if j=m then _ else G j)=F j;rw [if_neg (by omega)];exact HG.out j (by omega)
       case measure=>simp [intOf];omega
     ·have hnn:p+1+q+1=n:=by omega
      have HNN:=Lib.hid hnn
      have hrun:=run_clear_cells wr 0 hR (i:=m) (k:=n-m) (c:=cap-m) (by omega) (by omega)
      have HRUN:=Lib.hid hrun
      have ht:¬((q:Int)+1<((n-(p+1):Nat):Int)):=by omega
      clear hnn hR hrun hlt2
      go_wp2_with ((with_reducible refine wpList_clear rfl (.tmp 56) 55 rfl ?_ HRUN.out ?_);exact rfl)
      go_ret
      refine ⟨m,_,rfl,by omega,?_,HR2.out.zeros (n-m) m (by omega),mod_setCells b _ _ wr w _ HM2.out (fun _=>rfl)⟩
      rw [show n=p+1+q+1 from HNN.out.symm,←HK.out]
      apply List.map_congr_left;intro j hj;simp at hj
      show (if m≤j∧j<m+_ then _ else G j)=G j
      rw [if_neg (by omega)]
   ·have hq:∀w,_:=fun w=>run_eqC (F (p+1)) (F p) w
    rw [(eqC_false _ _).2 he] at hq
    have HE:=Lib.hid he
    clear he
    go_wp2_with fail
    go_quiet (fail)
    go_wp2
    go_roundw
    case rel=>exact ⟨p+1,_,by omega,by go_num,rfl,fun j hj=>by rcases Nat.lt_or_ge j p with a | a;exact HNE.out j a;(obtain rfl:j=p:=by omega);exact HE.out⟩
    case measure=>simp [intOf];omega
  ·obtain rfl:p+1=n:=by omega
   go_wp2
   go_ret
   exact ⟨p+1,F,rfl,Nat.le_refl _,(kept_all F p HNE.out).symm,HR.out,(Mod.refl _ w).drewN _⟩
end Go.Proofs.YthohnjgnpapnoaaGreatDoor
namespace Go.Proofs.YthohnjgnpapnoaaGreatDoor
open Go.RowKit
theorem ltC_irrefl (a:Int×Int):¬ltC a a:=by unfold ltC;omega
theorem ltC_trans (a b c:Int×Int) (h1:ltC a b) (h2:ltC b c):ltC a c:=by unfold ltC at*;omega
theorem ltC_tri (a b:Int×Int):ltC a b∨a=b∨ltC b a:=by
 unfold ltC
 rcases Int.lt_trichotomy a.2 b.2 with h | h | h
 ·exact .inl (.inl h)
 ·rcases Int.lt_trichotomy a.1 b.1 with k | k | k
  ·exact .inl (.inr ⟨h,k⟩)
  ·exact .inr (.inl (Prod.ext k h))
  ·exact .inr (.inr (.inr ⟨h.symm,k⟩))
 ·exact .inr (.inr (.inl h))
def Tid (l t:List (Int×Int)):Prop:=t.Pairwise ltC∧∀c,c∈t↔c∈l
def okZ (x:Int):Prop:= -1099511627776<x∧x<1099511627776
def okC (c:Int×Int):Prop:=okZ c.1∧okZ c.2
theorem tid_of {l:List (Int×Int)} {n:Nat} {F:Nat→Int×Int} (hp:((List.range n).map F).Perm l) (hs:∀i j,i<j→j<n→¬ltC (F j) (F i)):Tid l (kept F n):=by
 refine ⟨compactL_sorted ltC_irrefl ltC_trans _ ?_,fun c=>(compactL_mem _ c).trans hp.mem_iff⟩
 rw [List.pairwise_iff_getElem]
 intro i j hi hj hij
 simp at hi hj
 simp only [List.getElem_map,List.getElem_range]
 rcases ltC_tri (F i) (F j) with h | h | h
 ·exact .inl h
 ·exact .inr h
 ·exact absurd h (hs i j hij hj)
theorem compact_small (w:World) (A:Option Addr) (n cap:Nat) (h:n<2):
 Calls Tryz.prog 54 #[.slice A n cap] w fun e w'=>e= .returned (.slice A n cap)∧w=w':=by
 go_enter Tryz.func54,Tryz.ntmps54
 go_wp2
 go_ret
 exact ⟨rfl,rfl⟩
def CompPost2 (w:World) (B b off n:Nat) (F:Nat→Int×Int) (e:Ending) (w':World):Prop:=
 ∃m cap' F',e= .returned (.slice (some ⟨b,off,none⟩) m cap')∧m≤n∧m≤cap'∧cap'≤maxLen∧(List.range m).map F'=kept F n∧RowC w' 109 b off n F'∧Mod (fun k=>B≤k) w w'
theorem compact_two (w:World) (B b off n cap:Nat) (F:Nat→Int×Int) (h:RowC w 109 b off n F) (hB:B≤b) (hnc:n≤cap) (hcap:cap≤maxLen) (h1:0<n):
 Calls Tryz.prog 54 #[.slice (some ⟨b,off,none⟩) n cap] w (CompPost2 w B b off n F):=by
 by_cases h2:2≤n
 ·refine (compact_any w b off n cap F h hnc hcap h2).mono ?_
  rintro e w' ⟨m,F',rfl,k1,k2,k3,k4⟩
  exact ⟨m,cap,F',rfl,k1,by omega,hcap,k2,k3,k4.mono fun _ _ e=>by subst e;exact hB⟩
 ·refine (compact_small w _ n cap (by omega)).mono ?_
  rintro e w' ⟨rfl,rfl⟩
  obtain rfl:n=1:=by omega
  exact ⟨1,cap,F,rfl,Nat.le_refl _,hnc,hcap,rfl,h,Mod.refl _ _⟩
def TidyPost (w:World) (l:List (Int×Int)) (e:Ending) (w':World):Prop:=
 ∃A m t,e= .returned (.tuple #[.slice A m m,.int .i64 0])∧Tid l t∧Sl w' 109 2 (.slice A m m) m (flat t)∧(∀b,sblk (.slice A m m)=some b→w.heap.size≤b)∧Below w.heap.size w w'
theorem tidy_full (w:World) (A:Option Addr) (n cap:Nat) (h:4096<n) (hc:n≤maxLen):
 Calls Tryz.prog 30 #[.slice A n cap] w fun e w'=>e= .returned (.tuple #[.slice none 0 0,.int .i64 5])∧w=w':=by
 unfold maxLen at hc
 go_enter Tryz.func30,Tryz.ntmps30
 go_wp2
 go_ret2
 exact ⟨rfl,rfl⟩
set_option maxHeartbeats 1600000 in
theorem tidy_ok (w:World) (B n:Nat) (v:Value) (l:List (Int×Int)) (h:Rd w B 2 v n (flat l)) (hB:B≤w.heap.size) (hn:n≤4096) (hok:∀c∈l,okC c):
 Calls Tryz.prog 30 #[v] w (TidyPost w l):=by
 obtain ⟨A,cap,rfl,hc1,hc2⟩:=h.form
 obtain ⟨hl,hat⟩:=h.pairs
 have H:=Lib.hid h
 have HAT:=Lib.hid hat
 have HOK:=Lib.hid hok
 have HL:=Lib.hid hl
 clear h hat hok hl
 unfold maxLen at hc2
 go_enter Tryz.func30,Tryz.ntmps30
 go_wp2
 go_loopw [12] (fun iv wx=>∃k:Nat,k≤n∧iv= .int .i64 k∧Below w.heap.size w wx) (fun iv _=>n-(intOf iv).toNat)
 case atStart=>exact ⟨0,Nat.zero_le _,rfl,Below.refl _ _⟩
 case round=>
  obtain ⟨k,hk,rfl,hbx⟩:=hrel
  by_cases hlt:k<n
  ·obtain ⟨b,off,cap',he,_,_,hb1,hcs⟩:=HAT.out (by omega)
   injection he with he1 he2 he3
   subst he1 he3
   obtain ⟨c1,c2⟩:=hcs k hlt
   rw [←hbx.cell (p:=⟨b,off+k*2,none⟩) (by show b<_;omega)] at c1
   rw [←hbx.cell (p:=⟨b,off+k*2+1,none⟩) (by show b<_;omega)] at c2
   have hokk:okC l[k]! :=HOK.out _ (by rw [List.getElem!_eq_getElem?_getD,List.getElem?_eq_getElem (by rw [HL.out];exact hlt)];simp)
   generalize l[k]! =c at c1 c2 hokk
   obtain ⟨x,y⟩:=c
   obtain ⟨o1,o2⟩:=hokk
   have e1:decide (-1099511627776<x∧x<1099511627776)=true:=decide_eq_true o1
   have e2:decide (-1099511627776<y∧y<1099511627776)=true:=decide_eq_true o2
   have W1:∀w,Calls Tryz.prog 49 #[.int .i64 x] w fun e w'=>e= .returned (.bool true)∧w=w':=fun w=>e1▸within_any x w
   have W2:∀w,Calls Tryz.prog 49 #[.int .i64 y] w fun e w'=>e= .returned (.bool true)∧w=w':=fun w=>e2▸within_any y w
   have HW1:=Lib.hid W1
   have HW2:=Lib.hid W2
   have HBX:=Lib.hid hbx
   clear hcs e1 e2 W1 W2 o1 o2 hbx
   go_wp2_with fail
   refine (HW1.out _).mono ?_;rintro e w' ⟨rfl,rfl⟩
   go_wp2_with fail
   refine (HW2.out _).mono ?_;rintro e w' ⟨rfl,rfl⟩
   go_wp2
   go_roundw
   case rel=>exact ⟨k+1,by omega,by go_num,HBX.out.alloc HBX.out.size _⟩
   case measure=>simp [intOf];omega
  ·obtain rfl:k=n:=by omega
   have hr:Rd wr B 2 (.slice A k cap) k (flat l):=H.out.keep fun b hb=>hbx.block b (by omega)
   have HBX:=Lib.hid hbx
   have HR:=Lib.hid hr
   have hsz:=hbx.size
   clear hbx hr
   go_wp2_with fail
   (with_reducible refine (clone_any wr B k _ l HR.out (by omega) (by omega)).mono ?_)
   rintro e w1 ⟨v1,rfl,hs1,hf1,hb1⟩
   obtain ⟨A1,cap1,rfl,d1,d2⟩:=hs1.form
   have HS1:=Lib.hid hs1
   have HF1:=Lib.hid hf1
   have HB1:=Lib.hid hb1
   clear hs1 hf1 hb1
   rcases Nat.eq_zero_or_pos k with hk0 | hk0
   ·subst hk0
    have hl0:l= []:=List.eq_nil_of_length_eq_zero HL.out
    subst hl0
    go_wp2_with fail
    (with_reducible refine (sort_none w1 A1 cap1 _).mono ?_)
    rintro e w2 ⟨rfl,rfl⟩
    go_wp2_with fail
    (with_reducible refine (compact_small w1 A1 0 cap1 (by omega)).mono ?_)
    rintro e w2 ⟨rfl,rfl⟩
    go_wp2_with fail
    (with_reducible refine (clip_any w1 A1 0 cap1 (by omega) d2).mono ?_)
    rintro e w2 ⟨rfl,rfl⟩
    go_wp2
    go_ret2
    refine ⟨A1,0,[],rfl,⟨by simp,by simp⟩,?_,fun b hb=>?_,HBX.out.trans (HB1.out.mono HBX.out.size)⟩
    ·obtain ⟨z1,A',cap',z2,z3,z4,z5,z6⟩:=HS1.out
     injection z2 with z2 _ z7
     subst z2 z7
     refine ⟨z1,_,_,rfl,Nat.le_refl _,Nat.zero_le _,fun _=>rfl,fun a ha=>?_⟩
     obtain ⟨cs,y1,y2,y3,y4⟩:=z6 a ha
     exact ⟨cs,y1,y2,by omega,y4⟩
    ·have:=HF1.out b (by cases A1 with | none=>simp [sblk] at hb | some a=>exact hb)
     have:=HBX.out.size;omega
   ·obtain ⟨b,off,cap',he,_,_,_,_,_,_⟩:=HS1.out.at hk0
    injection he with he1 he2 he3
    subst he1 he3
    obtain ⟨hrow,hll⟩:=HS1.out.rowC
    have hbB:wr.heap.size≤b:=HF1.out b rfl
    have HROW:=Lib.hid hrow
    clear hrow
    go_wp2_with fail
    (with_reducible refine (sort_any w1 b off k cap1 _ HROW.out (by omega)).mono ?_)
    rintro e w2 ⟨rfl,F2,hp2,hs2,hr2,hm2⟩
    have HP2:=Lib.hid hp2
    have HS2:=Lib.hid hs2
    have HR2:=Lib.hid hr2
    have HM2:=Lib.hid hm2
    clear hp2 hs2 hr2 hm2
    go_wp2_with fail
    (with_reducible refine (compact_two w2 wr.heap.size b off k cap1 F2 HR2.out hbB d1 d2 hk0).mono ?_)
    rintro e w3 ⟨m,cap3,F3,rfl,g1,g2,g3,g4,g5,g6⟩
    have HG4:=Lib.hid g4
    have HG5:=Lib.hid g5
    have HG6:=Lib.hid g6
    clear g4 g5 g6
    go_wp2_with fail
    (with_reducible refine (clip_any w3 _ m cap3 g2 g3).mono ?_)
    rintro e w4 ⟨rfl,rfl⟩
    go_wp2
    go_ret2
    refine ⟨some ⟨b,off,none⟩,m,kept F2 k,rfl,?_,?_,fun b' hb'=>?_,?_⟩
    ·refine tid_of ?_ HS2.out
     have e:=range_map_get l
     rw [HL.out] at e
     exact HP2.out.trans (by rw [e])
    ·rw [←HG4.out];exact HG5.out.sl (Nat.le_refl _) g1 (by unfold maxLen;omega)
    ·have hb'':some b=some b':=hb'
     injection hb'' with hb''
     have:=HBX.out.size;omega
    ·have h12:Below wr.heap.size w1 w2:=HM2.out.below HB1.out.size (fun x hx e=>by omega)
     have h23:Below wr.heap.size w2 w3:=HG6.out.below (by have:=HB1.out.size;have:=h12.size;omega) (fun x hx e=>by omega)
     exact HBX.out.trans (((HB1.out.trans h12).trans h23).mono HBX.out.size)
theorem first_bad (l:List (Int×Int)) (h:∃c∈l,¬okC c):∃p,p<l.length∧¬okC l[p]!∧∀j,j<p→okC l[j]! :=by
 induction l with
 | nil=>obtain ⟨c,hc,_⟩:=h;simp at hc
 | cons a r ih=>
   by_cases ha:okC a
   ·obtain ⟨p,h1,h2,h3⟩:=ih (by
     obtain ⟨c,hc,hb⟩:=h
     rw [List.mem_cons] at hc
     rcases hc with rfl | hc
     ·exact absurd ha hb
     ·exact ⟨c,hc,hb⟩)
    refine ⟨p+1,by simp;omega,by simpa using h2,fun j hj=>?_⟩
    cases j with
    | zero=>simpa using ha
    | succ j=>simpa using h3 j (by omega)
   ·exact ⟨0,by simp,by simpa using ha,fun j hj=>absurd hj (by omega)⟩
set_option maxHeartbeats 1600000 in
theorem tidy_range (w:World) (B n:Nat) (v:Value) (l:List (Int×Int)) (h:Rd w B 2 v n (flat l)) (hB:B≤w.heap.size) (hn:n≤4096) (hbad:∃c∈l,¬okC c):
 Calls Tryz.prog 30 #[v] w fun e w'=>e= .returned (.tuple #[.slice none 0 0,.int .i64 3])∧Below w.heap.size w w':=by
 obtain ⟨A,cap,rfl,hc1,hc2⟩:=h.form
 obtain ⟨hl,hat⟩:=h.pairs
 obtain ⟨p,hp,hpb,hpo⟩:=first_bad l hbad
 rw [hl] at hp
 have HAT:=Lib.hid hat
 have HPB:=Lib.hid hpb
 have HPO:=Lib.hid hpo
 clear h hat hl hbad hpb hpo
 unfold maxLen at hc2
 go_enter Tryz.func30,Tryz.ntmps30
 go_wp2
 go_loopw [12] (fun iv wx=>∃k:Nat,k≤p∧iv= .int .i64 k∧Below w.heap.size w wx) (fun iv _=>n-(intOf iv).toNat)
 case atStart=>exact ⟨0,Nat.zero_le _,rfl,Below.refl _ _⟩
 case round=>
  obtain ⟨k,hk,rfl,hbx⟩:=hrel
  have hlt:k<n:=by omega
  obtain ⟨b,off,cap',he,_,_,hb1,hcs⟩:=HAT.out (by omega)
  injection he with he1 he2 he3
  subst he1 he3
  obtain ⟨c1,c2⟩:=hcs k hlt
  rw [←hbx.cell (p:=⟨b,off+k*2,none⟩) (by show b<_;omega)] at c1
  rw [←hbx.cell (p:=⟨b,off+k*2+1,none⟩) (by show b<_;omega)] at c2
  have HBX:=Lib.hid hbx
  clear hcs hbx
  by_cases hkp:k<p
  ·have hokk:=HPO.out k hkp
   generalize l[k]! =c at c1 c2 hokk
   obtain ⟨x,y⟩:=c
   obtain ⟨o1,o2⟩:=hokk
   have e1:decide (-1099511627776<x∧x<1099511627776)=true:=decide_eq_true o1
   have e2:decide (-1099511627776<y∧y<1099511627776)=true:=decide_eq_true o2
   have W1:∀w,Calls Tryz.prog 49 #[.int .i64 x] w fun e w'=>e= .returned (.bool true)∧w=w':=fun w=>e1▸within_any x w
   have W2:∀w,Calls Tryz.prog 49 #[.int .i64 y] w fun e w'=>e= .returned (.bool true)∧w=w':=fun w=>e2▸within_any y w
   have HW1:=Lib.hid W1
   have HW2:=Lib.hid W2
   clear e1 e2 W1 W2 o1 o2
   go_wp2_with fail
   refine (HW1.out _).mono ?_;rintro e w' ⟨rfl,rfl⟩
   go_wp2_with fail
   refine (HW2.out _).mono ?_;rintro e w' ⟨rfl,rfl⟩
   go_wp2
   go_roundw
   case rel=>exact ⟨k+1,by omega,by go_num,HBX.out.alloc HBX.out.size _⟩
   case measure=>simp [intOf];omega
  ·obtain rfl:k=p:=by omega
   have hbd:=HPB.out
   clear HPB HPO
   generalize l[k]! =c at c1 c2 hbd
   obtain ⟨x,y⟩:=c
   by_cases o1:okZ x
   ·have o2:¬okZ y:=fun h=>hbd ⟨o1,h⟩
    have e1:decide (-1099511627776<x∧x<1099511627776)=true:=decide_eq_true o1
    have e2:decide (-1099511627776<y∧y<1099511627776)=false:=decide_eq_false o2
    have W1:∀w,Calls Tryz.prog 49 #[.int .i64 x] w fun e w'=>e= .returned (.bool true)∧w=w':=fun w=>e1▸within_any x w
    have W2:∀w,Calls Tryz.prog 49 #[.int .i64 y] w fun e w'=>e= .returned (.bool false)∧w=w':=fun w=>e2▸within_any y w
    have HW1:=Lib.hid W1
    have HW2:=Lib.hid W2
    clear e1 e2 W1 W2 o1 o2 hbd
    go_wp2_with fail
    refine (HW1.out _).mono ?_;rintro e w' ⟨rfl,rfl⟩
    go_wp2_with fail
    refine (HW2.out _).mono ?_;rintro e w' ⟨rfl,rfl⟩
    go_wp2
    go_ret2
    exact ⟨rfl,HBX.out.alloc HBX.out.size _⟩
   ·have e1:decide (-1099511627776<x∧x<1099511627776)=false:=decide_eq_false o1
    have W1:∀w,Calls Tryz.prog 49 #[.int .i64 x] w fun e w'=>e= .returned (.bool false)∧w=w':=fun w=>e1▸within_any x w
    have HW1:=Lib.hid W1
    clear e1 W1 o1 hbd
    go_wp2_with fail
    refine (HW1.out _).mono ?_;rintro e w' ⟨rfl,rfl⟩
    go_wp2
    go_ret2
    exact ⟨rfl,HBX.out.alloc HBX.out.size _⟩
end Go.Proofs.YthohnjgnpapnoaaGreatDoor
namespace Go.Proofs.YthohnjgnpapnoaaGreatDoor
open Go.RowKit
def SamePost (w:World) (e:Ending) (w':World):Prop:=e= .returned (.bool true)∧∃d,w'=w.drewN d
set_option maxHeartbeats 800000 in
theorem same_true (w:World) (B B' n:Nat) (va vb:Value) (l:List (Int×Int)) (ha:Rd w B 2 va n (flat l)) (hb:Rd w B' 2 vb n (flat l)):
 Calls Tryz.prog 31 #[va,vb] w (SamePost w):=by
 obtain ⟨A,cap,rfl,hc1,hc2⟩:=ha.form
 obtain ⟨A',cap',rfl,hc1',hc2'⟩:=hb.form
 obtain ⟨_,hat⟩:=ha.pairs
 obtain ⟨_,hbt⟩:=hb.pairs
 have HA:=Lib.hid hat
 have HB:=Lib.hid hbt
 unfold maxLen at hc2 hc2'
 clear ha hb hat hbt
 go_enter Tryz.func31,Tryz.ntmps31
 go_wp2
 go_loopw [5] (fun iv wx=>∃(k d:Nat),k≤n∧iv= .int .i64 k∧wx=w.drewN d) (fun iv _=>n-(intOf iv).toNat)
 case atStart=>exact ⟨0,0,Nat.zero_le _,rfl,rfl⟩
 case round=>
  obtain ⟨k,d,hk,rfl,rfl⟩:=hrel
  by_cases hlt:k<n
  ·obtain ⟨b,off,cp,he,_,_,hb1,hcs⟩:=HA.out (by omega)
   injection he with he1 he2 he3
   subst he1 he3
   obtain ⟨c1,c2⟩:=hcs k hlt
   obtain ⟨b',off',cp',he',_,_,hb1',hcs'⟩:=HB.out (by omega)
   injection he' with he1' he2' he3'
   subst he1' he3'
   obtain ⟨c1',c2'⟩:=hcs' k hlt
   generalize l[k]! =c at c1 c2 c1' c2'
   have hq:∀w,_:=fun w=>run_neC c c w
   rw [(eqC_true _ _).2 rfl] at hq
   clear hcs hcs'
   go_wp2_with fail
   go_quiet (fail)
   go_wp2
   go_roundw
   case rel=>exact ⟨k+1,_,by omega,by go_num,rfl⟩
   case measure=>simp [intOf];omega
  ·go_wp2
   go_ret
   exact ⟨rfl,d,rfl⟩
end Go.Proofs.YthohnjgnpapnoaaGreatDoor
namespace Go.Proofs.YthohnjgnpapnoaaGreatDoor
open Go.RowKit
theorem nodup_le {t l:List (Int×Int)} (hn:t.Nodup) (hs:∀c∈t,c∈l):t.length≤l.length:=by
 induction t generalizing l with
 | nil=>simp
 | cons a r ih=>
   rw [List.nodup_cons] at hn
   have ha:=hs a (by simp)
   have h1:=ih (l:=l.erase a) hn.2 (fun c hc=>by
    rw [List.mem_erase_of_ne]
    ·exact hs c (by simp [hc])
    ·rintro rfl;exact hn.1 hc)
   rw [List.length_erase_of_mem ha] at h1
   have:=List.length_pos_of_mem ha
   simp only [List.length_cons]
   omega
theorem tid_length {l t:List (Int×Int)} (h:Tid l t):t.length≤l.length:=
 nodup_le (List.Pairwise.imp (R:=ltC) (S:=fun a b=>a≠b) (fun {a b} hab e=>ltC_irrefl a (by rw [←e] at hab;exact hab)) h.1) fun c hc=>(h.2 c).1 hc
theorem tid_mem {l t:List (Int×Int)} (h:Tid l t) (c:Int×Int):c∈t↔c∈l:=h.2 c
end Go.Proofs.YthohnjgnpapnoaaGreatDoor
