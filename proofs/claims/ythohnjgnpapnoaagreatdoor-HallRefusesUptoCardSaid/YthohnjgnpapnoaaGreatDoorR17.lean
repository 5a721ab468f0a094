/- quad: four numbers beside a hand. · quad: a walker in memory; empty. · quad: what Peel and Wrap do, in plain words. · quad: walk; what Peel's loops keep. -/
import Derived.Test.YthohnjgnpapnoaaGreatDoorR16
set_option linter.unusedVariables false
set_option linter.unusedSimpArgs false
namespace Go.Proofs.YthohnjgnpapnoaaGreatDoor
open Go.RowKit
structure Beside (w:World) (hb qb:Nat) (ty:TypeId) (more:List Value) (p:Nat) (R:ArR) (S:ArS) (A:Nat→Abs) (t:Nat) (bad:Int) (Q:Nat→Int) (R':ArR) (S':ArS) (A':Nat→Abs) (bad':Int) (wx:World):Prop where
 hd:Hd wx hb ty more p R' S' A' t bad'
 q:Blk wx qb 22 (QC Q)
 lo:w.heap.size≤qb
 no:¬Own p R' qb
 st:StepH (fun b=>b=hb∨w.heap.size≤b) p R R' w wx
theorem Hd.beside {w w1:World} {hb:Nat} {ty:TypeId} {more:List Value} {p:Nat} {R:ArR} {S:ArS} {A:Nat→Abs} {t:Nat} {bad:Int} {Q:Nat→Int} (h:Hd w1 hb ty more p R S A t bad) (hs:StepH (fun b=>b=hb) p R R w w1):Beside w hb w1.heap.size ty more p R S A t bad Q R S A bad (w1.alloc (.cells (QC Q) 22)):=
 ⟨h.alloc _,Blk.new _ _ _,hs.mod.size,fun ho=>Nat.lt_irrefl _ (h.arm.own_lt ho),(hs.wide fun _b _ e=> .inl e).alloc _⟩
theorem Beside.step {w w1 wx:World} {hb qb:Nat} {ty:TypeId} {more:List Value} {p:Nat} {R R' R2:ArR} {S S' S2:ArS} {A A' A2:Nat→Abs} {t:Nat} {bad bad' bad2:Int} {Q:Nat→Int} (h:Beside w hb qb ty more p R S A t bad Q R' S' A' bad' wx) (hlt:hb<w.heap.size)
 (hd:Hd w1 hb ty more p R2 S2 A2 t bad2) (hst:StepH (fun b=>b=hb) p R' R2 wx w1):Beside w hb qb ty more p R S A t bad Q R2 S2 A2 bad2 w1:=
 ⟨hd,h.q.mod hst.mod fun ho=>by
  rcases ho with ho | ho
  ·exact h.no ho
  ·have:=h.lo;omega,h.lo,hst.not h.q.lt h.no,h.st.trans (hst.wide fun b _ e=> .inl e)⟩
theorem Beside.set {w wx:World} {hb qb:Nat} {ty:TypeId} {more:List Value} {p:Nat} {R R':ArR} {S S':ArS} {A A':Nat→Abs} {t:Nat} {bad bad':Int} {Q:Nat→Int} (h:Beside w hb qb ty more p R S A t bad Q R' S' A' bad' wx) (hlt:hb<w.heap.size) {k:Nat} (hk:k<4) (r:Int):
 Beside w hb qb ty more p R S A t bad (upd Q k r) R' S' A' bad' (wx.setCell ⟨qb,k,none⟩ (.int .i64 r)):=by
 have hlo:=h.lo
 refine ⟨h.hd.keep (T:=fun b=>b=qb) ((Mod.refl (fun b=>b=qb) wx).set (p:=⟨qb,k,none⟩) (fun _=>rfl) _) (fun b hb e=>by subst e;exact h.no hb) (by omega),?_,hlo,h.no,h.st.set (q:=⟨qb,k,none⟩) (fun _=> .inr hlo) _⟩
 rw [←QC_set Q hk];exact h.q.set k _
theorem Beside.fin {w wx w1:World} {hb qb:Nat} {ty:TypeId} {more:List Value} {p:Nat} {R R' R2:ArR} {S S':ArS} {A A':Nat→Abs} {t:Nat} {bad bad':Int} {Q:Nat→Int} (h:Beside w hb qb ty more p R S A t bad Q R' S' A' bad' wx) (hst:StepH (fun b=>b=hb) p R' R2 wx w1):StepH (fun b=>b=hb) p R R2 w w1:=
 (h.st.trans (hst.wide fun b _ e=> .inl e)).wide fun b hb e=>by
   rcases e with e | e
   ·exact e
   ·omega
theorem kids_upd {S:ArS} {A:Nat→Abs} {t:Nat} {Q:Nat→Int} {T:Nat→Tree} {k:Nat} {r:Int} (h:Has S A t r (T k)) (h2:∀j,j<4→j≠k→Has S A t (Q j) (T j)):∀j,j<4→Has S A t (upd Q k r j) (T j):=fun j hj=>by
 by_cases e:j=k
 ·subst e;rw [upd_same];exact h
 ·rw [upd_ne _ _ e];exact h2 j hj e
end Go.Proofs.YthohnjgnpapnoaaGreatDoor
namespace Go.Proofs.YthohnjgnpapnoaaGreatDoor
open Go.RowKit
abbrev WT:=236
def blankT:Tree→Bool
 | .dead=>true
 | .alive=>false
 | .node a b c d=>blankT a&&blankT b&&blankT c&&blankT d
theorem blankT_of (P:Int→Int→Bool):∀(n:Nat) (x y:Int),blankT (treeOf P n x y)=true↔∀a b,inB n x y a b→P a b=false
 | 0,x,y=>by
   simp only [treeOf]
   constructor
   ·intro h a b hb
    have h1:a=x:=by unfold inB at hb;simp at hb;omega
    have h2:b=y:=by unfold inB at hb;simp at hb;omega
    subst h1 h2
    cases hp:P a b
    ·rfl
    ·rw [hp] at h;simp [blankT] at h
   ·intro h
    have:=h x y (by unfold inB;simp;omega)
    rw [this];rfl
 | n+1,x,y=>by
   simp only [treeOf,blankT,Bool.and_eq_true]
   rw [blankT_of P n,blankT_of P n,blankT_of P n,blankT_of P n]
   constructor
   ·rintro ⟨⟨⟨h0,h1⟩,h2⟩,h3⟩ a b hb
    rcases inB.up.1 hb with k | k | k | k
    ·exact h0 a b k
    ·exact h1 a b k
    ·exact h2 a b k
    ·exact h3 a b k
   ·intro h
    exact ⟨⟨⟨fun a b k=>h a b (inB.up.2 (.inl k)),fun a b k=>h a b (inB.up.2 (.inr (.inl k)))⟩,fun a b k=>h a b (inB.up.2 (.inr (.inr (.inl k))))⟩,fun a b k=>h a b (inB.up.2 (.inr (.inr (.inr k))))⟩
structure Wk (w:World) (wb mb:Nat) (p:Nat) (R:ArR) (S:ArS) (A:Nat→Abs) (t:Nat) (bad:Int) (K:List Int) (m:Int→Int):Prop where
 hd:Hd w wb WT [.map (some mb)] p R S A t bad
 map:MapN w mb K m
 no:¬Own p R mb
 nodup:K.Nodup
 memo:∀x∈K,2≤x∧∃T,Has S A t x T∧m x=if blankT T then 1 else 2
 none:∀x,x∉K→m x=0
abbrev WX (wb mb:Nat):Nat→Prop:=fun b=>b=wb∨b=mb
section
variable {w w1 w' : World} {wb mb p t : Nat} {R R1 R' : ArR} {S S' : ArS} {A A' : Nat → Abs} {bad bad' : Int} {K : List Int} {m : Int → Int}
theorem Wk.below (h:Wk w wb mb p R S A t bad K m) (hb:Below w.heap.size w w'):Wk w' wb mb p R S A t bad K m:=
 ⟨h.hd.below hb,h.map.mod (Mod.of_below_all hb) (fun h=>h),h.no,h.nodup,h.memo,h.none⟩
theorem Wk.ne (h:Wk w wb mb p R S A t bad K m):mb≠wb:=h.map.ne h.hd.blk
theorem Wk.hand (h:Wk w wb mb p R S A t bad K m) (hd:Hd w1 wb WT [.map (some mb)] p R1 S' A' t bad') (hs:StepH (fun b=>b=wb) p R R1 w w1) (hst:St t S A S' A'):Wk w1 wb mb p R1 S' A' t bad' K m:=
 ⟨hd,h.map.mod hs.mod fun ho=>by
  rcases ho with ho | ho
  ·exact h.no ho
  ·exact h.ne ho,hs.not h.map.lt h.no,h.nodup,fun x hx=>by
  obtain ⟨h2,T,hT,hm⟩:=h.memo x hx
  exact ⟨h2,T,hT.st h.hd.ht hst,hm⟩,h.none⟩
theorem Wk.few (h:Wk w wb mb p R S A t bad K m):K.length<maxLen:=by
 have hl:=h.hd.inv.lenN
 have:K.length≤((List.range 200002).map fun i:Nat=>(i:Int)).length:=List.Nodup.length_le_of_subset h.nodup fun x hx=>by
  obtain ⟨h2,T,hT,_⟩:=h.memo x hx
  cases T with
  | dead=>have h0:=hT.1;simp only [Den] at h0;omega
  | alive=>have h0:=hT.1;simp only [Den] at h0;omega
  | node a b c d=>
    have h0:=hT.1
    simp only [Den] at h0
    obtain ⟨i,e,rfl,h3,_⟩:=h0
    have:=(List.getElem?_eq_some_iff.1 h3).1
    exact List.mem_map.2 ⟨i,List.mem_range.2 (by omega),rfl⟩
 rw [List.length_map,List.length_range] at this
 unfold maxLen;omega
theorem Wk.put (h:Wk w wb mb p R S A t bad K m) {x v:Int} {T:Tree} (h2:2≤x) (hT:Has S A t x T) (hv:v=if blankT T then 1 else 2):
 ∃w',(Instr.mapUpdate 234 (.map (some mb)) (.int .i64 x) (.int .i64 v)).run Tryz.prog w= .ok () w'∧Wk w' wb mb p R S A t bad (if x∈K then K else x::K) (fun y=>if y=x then v else m y)∧StepH (WX wb mb) p R R w w':=by
 obtain ⟨w',h3,h4,h5⟩:=h.map.put (x:=x) (v:=v) (hT.1.i64 h.hd.inv) h.few (by rw [hv];split<;>exact ⟨by decide,by decide⟩)
 refine ⟨w',h3,⟨h.hd.keep h5 (fun b hb e=>h.no (e▸hb)) (fun e=>h.ne e.symm),h4,h.no,?_,fun y hy=>?_,fun y hy=>?_⟩,h5.mono fun b _ e=> .inr (.inr e),fun _ h=> .inl h⟩
 ·split
  ·exact h.nodup
  ·exact List.nodup_cons.2 ⟨by assumption,h.nodup⟩
 ·by_cases e:y=x
  ·subst e
   exact ⟨h2,T,hT,by simp only [if_true];exact hv⟩
  ·have:y∈K:=by
    split at hy
    ·exact hy
    ·rcases List.mem_cons.1 hy with q | q
     ·exact absurd q e
     ·exact q
   obtain ⟨g1,T',g2,g3⟩:=h.memo y this
   exact ⟨g1,T',g2,by simp only [e,if_false];exact g3⟩
 ·have e:y≠x:=by
   rintro rfl
   apply hy
   split
   ·assumption
   ·exact List.mem_cons_self ..
  have:y∉K:=fun q=>hy (by
   split
   ·exact q
   ·exact List.mem_cons_of_mem _ q)
  simp only [e,if_false];exact h.none y this
end
def WEPost (w:World) (wb mb p:Nat) (R:ArR) (S:ArS) (A:Nat→Abs) (t:Nat) (bad:Int) (T:Tree) (e:Ending) (w':World):Prop:=
 ∃(K:List Int) (m:Int→Int),e= .returned (.bool (blankT T))∧Wk w' wb mb p R S A t bad K m∧StepH (WX wb mb) p R R w w'
def WEOk (T:Tree):Prop:=∀(w:World) (wb mb p:Nat) (R:ArR) (S:ArS) (A:Nat→Abs) (t:Nat) (K:List Int) (m:Int→Int),Wk w wb mb p R S A t 0 K m→∀id:Int,Has S A t id T→
 Calls Tryz.prog 159 #[.pointer (some ⟨wb,0,none⟩),.int .i64 id] w (WEPost w wb mb p R S A t 0 T)
set_option maxRecDepth 100000 in
set_option maxHeartbeats 3200000 in
theorem wempty_two (w:World) (wb mb p:Nat) (R:ArR) (S:ArS) (A:Nat→Abs) (t:Nat) (bad:Int) (K:List Int) (m:Int→Int) (h:Wk w wb mb p R S A t bad K m) (T:Tree) (id:Int) (hT:Den S id T) (h2:id<2):
 Calls Tryz.prog 159 #[.pointer (some ⟨wb,0,none⟩),.int .i64 id] w (WEPost w wb mb p R S A t bad T):=by
 have H:=Lib.hid h
 have hb:(id==0)=blankT T:=by
  cases T with
  | dead=>simp only [Den] at hT;subst hT;rfl
  | alive=>simp only [Den] at hT;subst hT;rfl
  | node a b c d=>
    simp only [Den] at hT
    obtain ⟨i,e,rfl,_,h3,_⟩:=hT
    have:=h.hd.inv.two h3;omega
 have HB:=Lib.hid hb
 clear h hT hb
 go_enter Tryz.func159,Tryz.ntmps159
 go_wp2_with fail
 go_ret
 exact ⟨K,m,by rw [←HB.out];rfl,H.out,StepH.refl _ p R w⟩
def nOf (b:Bool):Int:=if b then 1 else 2
def seenT (T:Nat→Tree) (j:Nat):Bool:=(List.range j).all fun k=>blankT (T k)
theorem seenT_succ (T:Nat→Tree) (j:Nat):seenT T (j+1)=(seenT T j&&blankT (T j)):=by
 unfold seenT;rw [List.range_succ,List.all_append];simp
theorem seenT_four (T:Nat→Tree):blankT (.node (T 0) (T 1) (T 2) (T 3))=seenT T 4:=by
 simp [seenT,blankT,List.range_succ,Bool.and_assoc]
set_option maxRecDepth 100000 in
set_option maxHeartbeats 3200000 in
theorem wempty_node (T:Nat→Tree) (ih:∀j,j<4→WEOk (T j)):WEOk (.node (T 0) (T 1) (T 2) (T 3)):=by
 intro w wb mb p R S A t K m h id hT
 have H:=Lib.hid h
 have HT:=Lib.hid hT
 have hi2:2≤id:=by
  have h0:=hT.1
  simp only [Den] at h0
  obtain ⟨i,e,rfl,_,h3,_⟩:=h0
  have:=h.hd.inv.two h3;omega
 have h3:w.cell? ⟨wb,3,none⟩=some (.map (some mb)):=h.hd.blk.cellS (i:=3) rfl
 have hib:decide (id<2)=false:=decide_eq_false (by omega)
 have hlk:=h.map.look (hT.1.i64 h.hd.inv)
 by_cases hK:id∈K
 ·have hm:m id=if blankT (.node (T 0) (T 1) (T 2) (T 3)) then 1 else 2:=by
   obtain ⟨_,T',g1,g2⟩:=h.memo id hK
   rw [g2,Den.fn h.hd.inv g1.1 hT.1]
  rw [hm] at hlk
  clear h hT hm hK
  cases hB:blankT (.node (T 0) (T 1) (T 2) (T 3))
  ·rw [hB] at hlk
   rw [if_neg Bool.false_ne_true] at hlk
   have HB:=Lib.hid hB
   clear hB
   go_enter Tryz.func159,Tryz.ntmps159
   go_wp2_with fail
   go_ret
   exact ⟨K,m,by rw [HB.out];rfl,H.out,StepH.refl _ p R w⟩
  ·rw [hB] at hlk
   rw [if_pos rfl] at hlk
   have HB:=Lib.hid hB
   clear hB
   go_enter Tryz.func159,Tryz.ntmps159
   go_wp2_with fail
   go_ret
   exact ⟨K,m,by rw [HB.out];rfl,H.out,StepH.refl _ p R w⟩
 ·rw [h.none id hK] at hlk
  have HK:=Lib.hid (hkids_any w wb WT [.map (some mb)] p R S A t 0 h.hd id _ _ _ _ (fun _=>hT))
  clear h hT hK
  go_enter Tryz.func159,Tryz.ntmps159
  go_wp2_with fail
  (with_reducible refine HK.out.mono ?_)
  rintro e w1 ⟨k0,k1,k2,k3,rfl,hkh,_,hd1,hs1⟩
  obtain ⟨g0,g1,g2,g3⟩:=hkh rfl
  have HQ:Hid (∀j,j<4→Has S A t (qAt k0 k1 k2 k3 j) (T j)):=fun j hj=>by
   rcases (by omega:j=0∨j=1∨j=2∨j=3) with rfl | rfl | rfl | rfl<;>assumption
  have HW1:=Lib.hid (H.out.hand hd1 hs1 (St.refl H.out.hd.rel t))
  have HS1:Hid (StepH (WX wb mb) p R R w w1):=hs1.wide fun b _ e=> .inl e
  clear hkh hd1 hs1 g0 g1 g2 g3 HK h3 hlk
  go_wp2_with fail
  go_loopw [28,6] (fun iv nv wx=>∃(j:Nat) (K':List Int) (m':Int→Int),iv= .int .i64 j∧j≤4∧nv= .int .i64 (nOf (seenT T j))∧Wk wx wb mb p R S A t 0 K' m'∧StepH (WX wb mb) p R R w wx) (fun iv _ _=>4-(intOf iv).toNat)
  case atStart=>exact ⟨0,K,m,rfl,Nat.zero_le _,rfl,HW1.out,HS1.out⟩
  case round=>
   obtain ⟨j,K',m',rfl,hj,rfl,hW,hS⟩:=hrel
   have HW:=Lib.hid hW
   have HS:=Lib.hid hS
   clear hW hS
   by_cases hj4:j<4
   ·have hq:=fun w=>idx4 k0 k1 k2 k3 j hj4 w
    have HI:=Lib.hid (ih j hj4 wr wb mb p R S A t K' m' HW.out _ (HQ.out j hj4))
    have HJ4:=Lib.hid hj4
    have hlt:(j:Int)<4:=by omega
    have hwi:=wrap_nat' j (by unfold maxLen;omega)
    have HSE:=Lib.hid (seenT_succ T j)
    clear hj4 hj
    cases hb:blankT (T j)
    ·have HBJ:=Lib.hid hb
     clear hb
     go_wp2_with fail
     (with_reducible refine HI.out.mono ?_)
     rintro e w3 ⟨K2,m2,rfl,hw3,hs3⟩
     rw [HBJ.out]
     have HW3:=Lib.hid hw3
     have HS3:=Lib.hid (HS.out.trans hs3)
     have HN:Hid (seenT T (j+1)=false):=by show seenT T (j+1)=false;rw [HSE.out,HBJ.out];simp
     clear hw3 hs3 HI
     go_wp2_with fail
     go_roundw
     case rel=>exact ⟨j+1,K2,m2,by go_num,HJ4.out,by rw [HN.out];rfl,HW3.out,HS3.out⟩
     case measure=>simp [intOf];have:=HJ4.out;omega
    ·have HBJ:=Lib.hid hb
     clear hb
     go_wp2_with fail
     (with_reducible refine HI.out.mono ?_)
     rintro e w3 ⟨K2,m2,rfl,hw3,hs3⟩
     rw [HBJ.out]
     have HW3:=Lib.hid hw3
     have HS3:=Lib.hid (HS.out.trans hs3)
     have HN:Hid (seenT T (j+1)=seenT T j):=by show seenT T (j+1)=seenT T j;rw [HSE.out,HBJ.out];simp
     clear hw3 hs3 HI
     go_wp2_with fail
     go_roundw
     case rel=>exact ⟨j+1,K2,m2,by go_num,HJ4.out,by rw [HN.out],HW3.out,HS3.out⟩
     case measure=>simp [intOf];have:=HJ4.out;omega
   ·have hj5:j=4:=by omega
    subst hj5
    obtain ⟨w4,hrun,hw4,hs4⟩:=HW.out.put hi2 (HT.out.st HW.out.hd.ht (St.refl HW.out.hd.rel t)) (v:=nOf (seenT T 4)) (by rw [seenT_four];rfl)
    have HW4:=Lib.hid hw4
    have HS4:=Lib.hid (HS.out.trans hs4)
    have h3':wr.cell? ⟨wb,3,none⟩=some (.map (some mb)):=HW.out.hd.blk.cellS (i:=3) rfl
    have HSF:=Lib.hid (seenT_four T)
    clear hj hj4 hw4 hs4
    cases hB:seenT T 4
    ·rw [hB] at HSF hrun
     rw [show nOf false=2 from rfl] at hrun ⊢
     go_wp2_with fail
     go_ret
     exact ⟨_,_,by rw [HSF.out];rfl,HW4.out,HS4.out⟩
    ·rw [hB] at HSF hrun
     rw [show nOf true=1 from rfl] at hrun ⊢
     go_wp2_with fail
     go_ret
     exact ⟨_,_,by rw [HSF.out];rfl,HW4.out,HS4.out⟩
theorem wempty_any:∀T:Tree,WEOk T
 | .dead=>fun w wb mb p R S A t K m h id hT=>wempty_two w wb mb p R S A t 0 K m h .dead id hT.1 (by have:=hT.1;simp only [Den] at this;omega)
 | .alive=>fun w wb mb p R S A t K m h id hT=>wempty_two w wb mb p R S A t 0 K m h .alive id hT.1 (by have:=hT.1;simp only [Den] at this;omega)
 | .node a b c d=>by
   have h0:=wempty_any a
   have h1:=wempty_any b
   have h2:=wempty_any c
   have h3:=wempty_any d
   exact wempty_node (fun j=>if j=0 then a else if j=1 then b else if j=2 then c else d) fun j hj=>by
    rcases (by omega:j=0∨j=1∨j=2∨j=3) with rfl | rfl | rfl | rfl<;>assumption
end Go.Proofs.YthohnjgnpapnoaaGreatDoor
namespace Go.Proofs.YthohnjgnpapnoaaGreatDoor
open Go.RowKit
def T2 (P:Int→Int→Bool) (n:Nat) (k j:Nat):Tree:=subT P n (gx (2^(n+1)) (-2^(n+1)) k) (gy (2^(n+1)) (-2^(n+1)) k) j
theorem T2_kid (P:Int→Int→Bool) (n k:Nat):subT P (n+1) (-2^(n+1)) (-2^(n+1)) k= .node (T2 P n k 0) (T2 P n k 1) (T2 P n k 2) (T2 P n k 3):=by
 unfold T2;rw [←subT_all];rfl
theorem T2_lvl (P:Int→Int→Bool) (n k j:Nat):(T2 P n k j).lvl=n:=subT_lvl _ _ _ _ _
theorem four_cases {k:Nat} (h:k<4):k=0∨k=1∨k=2∨k=3:=by omega
theorem T2_inner (P:Int→Int→Bool) (n:Nat):rootT P n= .node (T2 P n 0 3) (T2 P n 1 2) (T2 P n 2 1) (T2 P n 3 0):=by
 unfold rootT
 rw [subT_all]
 have h:(2:Int)^(n+1)=2^n*2:=Int.pow_succ 2 n
 have e:∀k,k<4→subT P n (-2^n) (-2^n) k=T2 P n k (3-k):=fun k hk=>by
  unfold T2 subT
  rw [h]
  rcases four_cases hk with rfl | rfl | rfl | rfl
  ·simp only [gx,gy];congr 1<;>simp<;>omega
  ·simp only [gx,gy];congr 1<;>simp<;>omega
  ·simp only [gx,gy];congr 1<;>simp<;>omega
  ·simp only [gx,gy];congr 1<;>simp<;>omega
 rw [e 0 (by decide),e 1 (by decide),e 2 (by decide),e 3 (by decide)]
def Fits (P:Int→Int→Bool) (k n:Nat):Prop:=∀a b,inB (k+1) (-2^k) (-2^k) a b→P a b=true→inB (n+1) (-2^n) (-2^n) a b
theorem inB_T2 {n:Nat} {a b:Int} (h:inB (n+2) (-2^(n+1)) (-2^(n+1)) a b):∃k j,k<4∧j<4∧inB n (gx (2^n) (gx (2^(n+1)) (-2^(n+1)) k) j) (gy (2^n) (gy (2^(n+1)) (-2^(n+1)) k) j) a b:=by
 have key:∀{m:Nat} {x y:Int},inB (m+1) x y a b→∃k,k<4∧inB m (gx (2^m) x k) (gy (2^m) y k) a b:=fun {m x y} h=>by
  rcases inB.up.1 h with q | q | q | q
  ·exact ⟨0,by decide,q⟩
  ·exact ⟨1,by decide,q⟩
  ·exact ⟨2,by decide,q⟩
  ·exact ⟨3,by decide,q⟩
 obtain ⟨k,hk,h1⟩:=key h
 obtain ⟨j,hj,h2⟩:=key h1
 exact ⟨k,j,hk,hj,h2⟩
theorem inB_of_T2 {n k j:Nat} {a b:Int} (hk:k<4) (hj:j<4) (h:inB n (gx (2^n) (gx (2^(n+1)) (-2^(n+1)) k) j) (gy (2^n) (gy (2^(n+1)) (-2^(n+1)) k) j) a b):inB (n+2) (-2^(n+1)) (-2^(n+1)) a b:=sub_in hk (sub_in hj h)
theorem T2_in {n k j:Nat} {a b:Int} (hk:k<4) (hj:j<4) (h:inB n (gx (2^n) (gx (2^(n+1)) (-2^(n+1)) k) j) (gy (2^n) (gy (2^(n+1)) (-2^(n+1)) k) j) a b):inB (n+1) (-2^n) (-2^n) a b↔j=3-k:=by
 have hp:=pow_pos2 n
 unfold inB at h ⊢
 rw [show (2:Int)^(n+1)=2^n*2 from Int.pow_succ 2 n] at h ⊢
 generalize (2:Int)^n=z at*
 unfold gx gy at h
 rcases four_cases hk with rfl | rfl | rfl | rfl<;>rcases four_cases hj with rfl | rfl | rfl | rfl<;>simp at h<;>constructor<;>intro q<;>omega
def outerB (U:Nat→Nat→Tree) (k j:Nat):Bool:=(List.range j).all fun i=>decide (i=3-k) || blankT (U k i)
def fitB (U:Nat→Nat→Tree) (k:Nat):Bool:=(List.range k).all fun i=>outerB U i 4
theorem outerB_succ (U:Nat→Nat→Tree) (k j:Nat):outerB U k (j+1)=(outerB U k j&&(decide (j=3-k) || blankT (U k j))):=by
 unfold outerB;rw [List.range_succ,List.all_append];simp
theorem fitB_succ (U:Nat→Nat→Tree) (k:Nat):fitB U (k+1)=(fitB U k&&outerB U k 4):=by
 unfold fitB;rw [List.range_succ,List.all_append];simp
theorem fitB_iff (U:Nat→Nat→Tree):fitB U 4=true↔∀k,k<4→∀j,j<4→j≠3-k→blankT (U k j)=true:=by
 unfold fitB outerB
 simp only [List.all_eq_true,List.mem_range,Bool.or_eq_true,decide_eq_true_eq]
 constructor
 ·intro h k hk j hj hne
  rcases h k hk j hj with q | q
  ·exact absurd q hne
  ·exact q
 ·intro h k hk j hj
  by_cases e:j=3-k
  ·exact .inl e
  ·exact .inr (h k hk j hj e)
theorem fits_iff (P:Int→Int→Bool) (n:Nat):fitB (T2 P n) 4=true↔Fits P (n+1) n:=by
 rw [fitB_iff]
 constructor
 ·intro h a b hb hp
  obtain ⟨k,j,hk,hj,h2⟩:=inB_T2 hb
  rw [T2_in hk hj h2]
  by_cases e:j=3-k
  ·exact e
  ·have:=(blankT_of P n _ _).1 (h k hk j hj e) a b h2
   rw [this] at hp;cases hp
 ·intro h k hk j hj hne
  refine (blankT_of P n _ _).2 fun a b hb=>?_
  cases hp:P a b
  ·rfl
  ·exact absurd ((T2_in hk hj hb).1 (h a b (inB_of_T2 hk hj hb) hp)) hne
theorem Fits.refl (P:Int→Int→Bool) (k:Nat):Fits P k k:=fun _ _ h _=>h
theorem root_mono {k n:Nat} (h:n≤k) {a b:Int} (hb:inB (n+1) (-2^n) (-2^n) a b):inB (k+1) (-2^k) (-2^k) a b:=by
 have h1:=Nat.pow_le_pow_right (n:=2) (by decide) h
 have h2:((2^n:Nat):Int)≤((2^k:Nat):Int):=Int.ofNat_le.2 h1
 have h3:(2:Int)^n≤2^k:=by simpa using h2
 unfold inB at hb ⊢
 rw [Int.pow_succ] at hb ⊢
 omega
theorem Fits.trans {P:Int→Int→Bool} {k n m:Nat} (h:Fits P k n) (g:Fits P n m):Fits P k m:=fun a b hb hp=>g a b (h a b hb hp) hp
end Go.Proofs.YthohnjgnpapnoaaGreatDoor
namespace Go.Proofs.YthohnjgnpapnoaaGreatDoor
open Go.RowKit
def WalkPost (w:World) (p:Nat) (R:ArR) (S:ArS) (A:Nat→Abs) (t:Nat) (e:Ending) (w':World):Prop:=
 ∃wb mb:Nat,e= .returned (.pointer (some ⟨wb,0,none⟩))∧Wk w' wb mb p R S A t 0 [] (fun _=>0)∧Below w.heap.size w w'∧w.heap.size≤wb∧w.heap.size≤mb
set_option maxRecDepth 100000 in
set_option maxHeartbeats 3200000 in
theorem walk_any (w:World) (p:Nat) (R:ArR) (S:ArS) (A:Nat→Abs) (h:Ar w p R S A) (t:Nat) (ht:t<64):
 Calls Tryz.prog 155 #[.pointer (some ⟨p,0,none⟩),.int .i64 t] w (WalkPost w p R S A t):=by
 have hmm:=@run_makeMap Tryz.prog
 have hA1:Ar (w.alloc (.map #[] 0)) p R S A:=h.below ((Below.refl _ _).alloc (Nat.le_refl _) _)
 have hd:=hA1.hd ht WT [.map (some w.heap.size)]
 have hM:MapN ((w.alloc (.map #[] 0)).alloc (.cells (handC p t 0 [.map (some w.heap.size)]) WT)) w.heap.size [] (fun _=>0):=(MapN.made w).of_block (Below.heap_alloc _ _ _ (by simp))
 have hno:¬Own p R w.heap.size:=fun ho=>Nat.lt_irrefl _ (h.arm.own_lt ho)
 rw [World.size_alloc] at hd
 have HF:Hid (WalkPost w p R S A t (.returned (.pointer (some ⟨w.heap.size+1,0,none⟩))) ((w.alloc (.map #[] 0)).alloc (.cells (handC p t 0 [.map (some w.heap.size)]) WT))):=
  ⟨_,_,rfl,⟨hd,hM,hno,List.nodup_nil,(fun x hx=>by cases hx),fun x _=>rfl⟩,((Below.refl _ _).alloc (Nat.le_refl _) _).alloc (by simp) _,by omega,Nat.le_refl _⟩
 clear h hA1 hd hM hno
 go_enter Tryz.func155,Tryz.ntmps155
 go_wp2_with fail
 go_ret
 exact HF.out
structure KidsIn (w:World) (hb:Nat) (ty:TypeId) (more:List Value) (p:Nat) (R:ArR) (S:ArS) (A:Nat→Abs) (t:Nat) (bad:Int) (r:Nat→Int) (w5:World) (rb:Nat):Prop where
 hd:Hd w5 hb ty more p R S A t bad
 r:Blk w5 rb 22 (QC r)
 lo:w.heap.size≤rb
 st:StepH (fun b=>b=hb) p R R w w5
section
variable {w w3 : World} {hb : Nat} {ty : TypeId} {more : List Value} {p : Nat} {R : ArR} {S : ArS} {A : Nat → Abs} {t : Nat} {bad : Int} {r : Nat → Int}
theorem kin_a (hd:Hd w3 hb ty more p R S A t bad) (hs:StepH (fun b=>b=hb) p R R w.drew w3):KidsIn w hb ty more p R S A t bad r (w3.alloc (.cells #[.int .i64 (r 0),.int .i64 (r 1),.int .i64 (r 2),.int .i64 (r 3)] 22)) w3.heap.size:=
 ⟨hd.alloc _,Blk.new _ _ _,hs.mod.size,(((StepH.refl (fun b=>b=hb) p R w).drew).trans hs).alloc _⟩
theorem kin_b (h:Hd w hb ty more p R S A t bad) (hd:Hd w3 hb ty more p R S A t bad) (hs:StepH (fun b=>b=hb) p R R (w.alloc (.cells #[.int .i64 0,.int .i64 0,.int .i64 0,.int .i64 0] 22)).drew w3):
 KidsIn w hb ty more p R S A t bad r ((((w3.setCell ⟨w.heap.size,0,none⟩ (.int .i64 (r 0))).setCell ⟨w.heap.size,1,none⟩ (.int .i64 (r 1))).setCell ⟨w.heap.size,2,none⟩ (.int .i64 (r 2))).setCell ⟨w.heap.size,3,none⟩ (.int .i64 (r 3))) w.heap.size:=by
 have hlt:=h.blk.lt
 have hno:¬Own p R w.heap.size:=fun ho=>Nat.lt_irrefl _ (h.arm.own_lt ho)
 have hz:=(Blk.new w 22 #[.int .i64 0,.int .i64 0,.int .i64 0,.int .i64 0]).drew.mod hs.mod (fun ho=>by
  rcases ho with ho | ho
  ·exact hno ho
  ·omega)
 have hm4:Mod (fun b=>b=w.heap.size) w3 ((((w3.setCell ⟨w.heap.size,0,none⟩ (.int .i64 (r 0))).setCell ⟨w.heap.size,1,none⟩ (.int .i64 (r 1))).setCell ⟨w.heap.size,2,none⟩ (.int .i64 (r 2))).setCell ⟨w.heap.size,3,none⟩ (.int .i64 (r 3))):=
  ((((Mod.refl (fun b=>b=w.heap.size) w3).set (p:=⟨w.heap.size,0,none⟩) (fun _=>rfl) _).set (p:=⟨w.heap.size,1,none⟩) (fun _=>rfl) _).set (p:=⟨w.heap.size,2,none⟩) (fun _=>rfl) _).set (p:=⟨w.heap.size,3,none⟩) (fun _=>rfl) _
 refine ⟨hd.keep hm4 (fun b hb e=>by subst e;exact hno hb) (by omega),(((hz.set 0 _).set 1 _).set 2 _).set 3 _,Nat.le_refl _,?_⟩
 have s1:=((StepH.refl (fun b=>b=hb) p R w).alloc (.cells #[.int .i64 0,.int .i64 0,.int .i64 0,.int .i64 0] 22)).drew.trans hs
 exact ⟨s1.mod.trans hm4 (fun b hb e=>by omega),s1.own⟩
theorem keep_one {z c j:Nat} {v:Value} (hne:c≠z) (e:w.cell? ⟨c,j,none⟩=some v) (u0 u1 u2 u3:Value):
 ((((w.setCell ⟨z,0,none⟩ u0).setCell ⟨z,1,none⟩ u1).setCell ⟨z,2,none⟩ u2).setCell ⟨z,3,none⟩ u3).cell? ⟨c,j,none⟩=some v:=
 (World.cell?_of_block (a:=⟨c,j,none⟩) (by
   show _=w.heap[c]?
   rw [Below.heap_setCell _ _ _ _ hne,Below.heap_setCell _ _ _ _ hne,Below.heap_setCell _ _ _ _ hne,Below.heap_setCell _ _ _ _ hne])).trans e
end
def UT (P:Int→Int→Bool) (n:Nat) (bad:Int) (k j:Nat):Tree:=if bad=0 then T2 P n k j else .dead
theorem UT_ok (P:Int→Int→Bool) (n:Nat) {bad:Int} (e:bad=0):UT P n bad=T2 P n:=by funext k j;unfold UT;rw [if_pos e]
theorem UT_fits {P:Int→Int→Bool} {n:Nat} {bad:Int} {B:Bool} (h:fitB (UT P n bad) 4=B) (e:bad=0):B=true↔Fits P (n+1) n:=by
 rw [←h,UT_ok P n e];exact fits_iff P n
structure PeelI (w:World) (wb mb qb pb:Nat) (p:Nat) (R:ArR) (S:ArS) (A:Nat→Abs) (t:Nat) (bad:Int) (P:Int→Int→Bool) (n:Nat) (Q:Nat→Int) (k:Nat) (V:Nat→Int) (K:List Int) (m:Int→Int) (wx:World):Prop where
 wk:Wk wx wb mb p R S A t bad K m
 q:Blk wx qb 22 (QC Q)
 v:Blk wx pb 22 (QC V)
 has:bad=0→∀i,i<k→Has S A t (V i) (T2 P n i (3-i))
 st:StepH (fun b=>WX wb mb b∨b=pb) p R R w wx
section
variable {w wx w5 w6 : World} {wb mb qb pb rb p t : Nat} {R : ArR} {S : ArS} {A : Nat → Abs} {bad : Int} {P : Int → Int → Bool} {n k : Nat} {Q V r : Nat → Int} {K K' : List Int} {m m' : Int → Int}
structure PeelB (w:World) (wb mb qb pb p:Nat) (R:ArR):Prop where
 lq:qb<w.heap.size
 lp:pb<w.heap.size
 nq:¬Own p R qb
 np:¬Own p R pb
 q1:qb≠wb
 q2:qb≠mb
 q3:qb≠pb
 p1:pb≠wb
 p2:pb≠mb
theorem PeelI.walk (h:PeelI w wb mb qb pb p R S A t bad P n Q k V K m wx) (hB:PeelB w wb mb qb pb p R) (hw:Wk w5 wb mb p R S A t bad K' m') (hs:StepH (WX wb mb) p R R wx w5):PeelI w wb mb qb pb p R S A t bad P n Q k V K' m' w5:=
 ⟨hw,h.q.mod hs.mod fun ho=>by
  rcases ho with ho | ho | ho
  ·exact hB.nq ho
  ·exact hB.q1 ho
  ·exact hB.q2 ho,h.v.mod hs.mod fun ho=>by
  rcases ho with ho | ho | ho
  ·exact hB.np ho
  ·exact hB.p1 ho
  ·exact hB.p2 ho,h.has,h.st.trans (hs.wide fun b _ e=> .inl e)⟩
theorem PeelI.kids (h:PeelI w wb mb qb pb p R S A t bad P n Q k V K m wx) (hB:PeelB w wb mb qb pb p R) (hk:KidsIn wx wb WT [.map (some mb)] p R S A t bad r w5 rb):PeelI w wb mb qb pb p R S A t bad P n Q k V K m w5:=
 h.walk hB (h.wk.hand hk.hd hk.st (St.refl h.wk.hd.rel t)) (hk.st.wide fun _b _ e=> .inl e)
theorem PeelI.set (h:PeelI w wb mb qb pb p R S A t bad P n Q k V K m wx) (hB:PeelB w wb mb qb pb p R) (hk:k<4) {x:Int} (hx:bad=0→Has S A t x (T2 P n k (3-k))):PeelI w wb mb qb pb p R S A t bad P n Q (k+1) (upd V k x) K m (wx.setCell ⟨pb,k,none⟩ (.int .i64 x)):=by
 have hm1:Mod (fun b=>b=pb) wx (wx.setCell ⟨pb,k,none⟩ (.int .i64 x)):=(Mod.refl (fun b=>b=pb) wx).set (p:=⟨pb,k,none⟩) (fun _=>rfl) _
 refine ⟨⟨h.wk.hd.keep hm1 (fun b hb e=>by subst e;exact hB.np hb) (Ne.symm hB.p1),h.wk.map.mod hm1 (Ne.symm hB.p2),h.wk.no,h.wk.nodup,h.wk.memo,h.wk.none⟩,h.q.mod hm1 hB.q3,by rw [←QC_set V hk];exact h.v.set k _,fun e i hi=>?_,h.st.set (q:=⟨pb,k,none⟩) (fun _=> .inr rfl) _⟩
 by_cases e2:i=k
 ·subst e2;rw [upd_same];exact hx e
 ·rw [upd_ne _ _ e2];exact h.has e i (by omega)
theorem peel_rb (h:PeelI w wb mb qb pb p R S A t bad P n Q k V K m wx) (hlo:wx.heap.size≤rb):rb≠pb∧rb≠wb∧rb≠mb∧¬Own p R rb:=by
 have h1:=h.v.lt
 have h2:=h.wk.hd.blk.lt
 have h3:=h.wk.map.lt
 exact ⟨by omega,by omega,by omega,fun ho=>by have:=h.wk.hd.arm.own_lt ho;omega⟩
theorem four_fn (a b c d:Int):∃r:Nat→Int,r 0=a∧r 1=b∧r 2=c∧r 3=d:=⟨fun k=>if k=0 then a else if k=1 then b else if k=2 then c else d,rfl,rfl,rfl,rfl⟩
theorem peel_start (h:Wk wx wb mb p R S A t bad K m):PeelI ((wx.alloc (.cells #[.int .i64 (Q 0),.int .i64 (Q 1),.int .i64 (Q 2),.int .i64 (Q 3)] 22)).alloc (.cells #[.int .i64 0,.int .i64 0,.int .i64 0,.int .i64 0] 22)) wb mb wx.heap.size (wx.heap.size+1) p R S A t bad P n Q 0 (fun _=>0) K m ((wx.alloc (.cells #[.int .i64 (Q 0),.int .i64 (Q 1),.int .i64 (Q 2),.int .i64 (Q 3)] 22)).alloc (.cells #[.int .i64 0,.int .i64 0,.int .i64 0,.int .i64 0] 22))∧
 PeelB ((wx.alloc (.cells #[.int .i64 (Q 0),.int .i64 (Q 1),.int .i64 (Q 2),.int .i64 (Q 3)] 22)).alloc (.cells #[.int .i64 0,.int .i64 0,.int .i64 0,.int .i64 0] 22)) wb mb wx.heap.size (wx.heap.size+1) p R:=by
 have h1:=h.hd.blk.lt
 have h2:=h.map.lt
 have hno:∀b,wx.heap.size≤b→¬Own p R b:=fun b hb ho=>by have:=h.hd.arm.own_lt ho;omega
 have hb:=((Below.refl wx.heap.size wx).alloc (Nat.le_refl _) (.cells #[.int .i64 (Q 0),.int .i64 (Q 1),.int .i64 (Q 2),.int .i64 (Q 3)] 22)).alloc (by simp) (.cells #[.int .i64 0,.int .i64 0,.int .i64 0,.int .i64 0] 22)
 refine ⟨⟨h.below hb,(Blk.new wx _ _).alloc _,?_,fun _ i hi=>absurd hi (Nat.not_lt_zero _),StepH.refl _ p R _⟩,⟨by simp;omega,by simp,hno _ (Nat.le_refl _),hno _ (by omega),by omega,by omega,by omega,by omega,by omega⟩⟩
 have:=Blk.new (wx.alloc (.cells #[.int .i64 (Q 0),.int .i64 (Q 1),.int .i64 (Q 2),.int .i64 (Q 3)] 22)) 22 #[.int .i64 0,.int .i64 0,.int .i64 0,.int .i64 0]
 rw [World.size_alloc] at this
 exact this
theorem wempty_gen (h:Wk wx wb mb p R S A t bad K m) {U:Tree} {id:Int} (h0:bad=0→Has S A t id U) (h1:bad≠0→id=0∧U= .dead):
 Calls Tryz.prog 159 #[.pointer (some ⟨wb,0,none⟩),.int .i64 id] wx (WEPost wx wb mb p R S A t bad U):=by
 by_cases e:bad=0
 ·subst e;exact wempty_any U wx wb mb p R S A t K m h id (h0 rfl)
 ·obtain ⟨rfl,rfl⟩:=h1 e
  exact wempty_two wx wb mb p R S A t bad K m h .dead 0 (by simp only [Den]) (by decide)
end
end Go.Proofs.YthohnjgnpapnoaaGreatDoor
