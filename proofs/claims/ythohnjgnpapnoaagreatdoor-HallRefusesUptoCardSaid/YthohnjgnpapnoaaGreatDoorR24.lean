/- hall: what step makes: plain words. · quad: Count's closure, for squares of any size (the sums may wrap). · quad: Count. -/
import Derived.Test.YthohnjgnpapnoaaGreatDoorR21
import Derived.Test.YthohnjgnpapnoaaGreatDoorR23
import Derived.Test.YthohnjgnpapnoaaGreatDoorR17
import Derived.Laws.EntriesVeiled
import Derived.Test.YthohnjgnpapnoaaGreatDoorR20
set_option linter.unusedVariables false
set_option linter.unusedSimpArgs false
namespace Go.Proofs.YthohnjgnpapnoaaGreatDoor
open Go.RowKit
theorem box_has {P:Int→Int→Bool} {k:Nat} (hs:Supp P k) {a c:Int} (hp:P a c=true):bxX0 P k≤a∧a≤bxX1 P k∧bxY0 P k≤c∧c≤bxY1 P k:=by
 have h2:(2:Int)^(k+1)=2^k*2:=Int.pow_succ 2 k
 have hin:inB (k+1) (-2^k) (-2^k) a c:=by
  have:=hs a c hp
  unfold inB;rw [h2];omega
 have e:∀s,s<4→bxD P k s≤farC s (k+1) (-2^k) (-2^k) a c:=fun s h=>(edge_least h P (k+1) (-2^k) (-2^k) ⟨a,c,hin,hp⟩).1 a c hin hp
 have e0:=e 0 (by decide)
 have e1:=e 1 (by decide)
 have e2:=e 2 (by decide)
 have e3:=e 3 (by decide)
 simp only [farC] at e0 e1 e2 e3
 unfold bxX0 bxX1 bxY0 bxY1
 rw [h2] at e1 e3
 simp at e0 e1 e2 e3
 omega
def farB (P:Int→Int→Bool) (k:Nat):Int:=max (max (max (-bxX0 P k) (-bxY0 P k)) (bxX1 P k)) (bxY1 P k)
theorem step_span {P:Int→Int→Bool} {k n:Nat} {b l:Int} (hg:goodR b l) (hs:Supp P k) (hn:n≤1073741824) (h:blankT (rootT P k)=true∨farB P k+n<1099511627776):∀m,m≤n→Span (evN b l m P) (-1099511627776+1) 1099511627776:=fun m hm=>by
 rcases h with h | h
 ·have h0:Span P 0 0:=fun a c hp=>by
   have h2:(2:Int)^(k+1)=2^k*2:=Int.pow_succ 2 k
   have hin:inB (k+1) (-2^k) (-2^k) a c:=by
    have:=hs a c hp
    unfold inB;rw [h2];omega
   have:=(blankT_of P (k+1) (-2^k) (-2^k)).1 h a c hin
   rw [this] at hp;cases hp
  exact (Span.evN hg h0 m).wide (by omega) (by omega)
 ·have h0:Span P (-farB P k) (farB P k+1):=fun a c hp=>by
   have:=box_has hs hp
   unfold farB
   omega
  exact (Span.evN hg h0 m).wide (by omega) (by omega)
theorem span_supp40 {P:Int→Int→Bool} (h:Span P (-1099511627776+1) 1099511627776):Supp P 40:=fun a c hp=>by
 have:=h a c hp
 rw [show (2:Int)^40=1099511627776 from by decide]
 omega
theorem span_ok {P:Int→Int→Bool} (h:Span P (-1099511627776+1) 1099511627776):okP P:=fun a c hp=>by
 have:=h a c hp
 unfold okC okZ
 show _∧_
 constructor<;>constructor<;>omega
def stepX (H:HS) (q:SReq):Int:=
 if (hfind H.Ws H.K q.name 2).2≠0 then (hfind H.Ws H.K q.name 2).2 else if q.n<0∨1073741824<q.n then 3 else
  match H.Ws[(hfind H.Ws H.K q.name 2).1]? with
  | none=>0
  | some y=>if blankT (rootT y.P y.k)=false∧1099511627776≤farB y.P y.k+q.n then 3 else 0
def StepF (H:HS) (q:SReq) (t:Nat) (x:Int) (H':HS):Prop:=stepX H q=x∧H'=H∨stepX H q=0∧∃(y:WD) (L:List Thing),H.Ws[(hfind H.Ws H.K q.name 2).1]? =some y∧L.length≤1760∧(∀V,StepsD y.b y.l y.P y.k q.n.toNat 40 V→∀x∈L,x∈V)∧Grew t (fun V=>StepsC y.b y.l y.P q.n.toNat 40 V∧∀x∈L,x∈V) H.S H.A 0 H'.S H'.A x
def StepG (H:HS) (q:SReq) (t:Nat) (a:An) (H':HS):Prop:=stepX H q=0∧a=An.zero 0∧∃(y:WD) (L:List Thing) (r:Int) (κ:Nat),H.Ws[(hfind H.Ws H.K q.name 2).1]? =some y∧L.length≤1760∧(∀V,StepsD y.b y.l y.P y.k q.n.toNat 40 V→∀x∈L,x∈V)∧Grew t (fun V=>StepsC y.b y.l y.P q.n.toNat 40 V∧∀x∈L,x∈V) H.S H.A 0 H'.S H'.A 0∧StepsD y.b y.l y.P y.k q.n.toNat 40 (H'.A t).have_∧
 Can (evN y.b y.l q.n.toNat y.P) κ∧H'.Ws=H.Ws.set (hfind H.Ws H.K q.name 2).1 {y with root:=r,P:=evN y.b y.l q.n.toNat y.P,k:=κ}∧H'.ser=H.ser∧H'.K=H.K
end Go.Proofs.YthohnjgnpapnoaaGreatDoor
namespace Go.Proofs.YthohnjgnpapnoaaGreatDoor
open Go.RowKit
def addW (n g:Int):Int:=min (IntKind.i64.wrap (n+g)) 4611686018427387904
def cntW:Tree→Int
 | .dead=>0
 | .alive=>1
 | .node a b c d=>addW (addW (addW (addW 0 (cntW a)) (cntW b)) (cntW c)) (cntW d)
theorem addW_i64 (n g:Int):i64r (addW n g):=by
 unfold addW
 rw [IntKind.wrap_i64]
 constructor<;>omega
theorem cntW_i64:∀T:Tree,i64r (cntW T)
 | .dead=>⟨by decide,by decide⟩
 | .alive=>⟨by decide,by decide⟩
 | .node .. =>addW_i64 _ _
structure CB where
 nb:Nat
 mc:Nat
 wc:Nat
 cb:Nat
 y1:TypeId
 y2:TypeId
 y3:TypeId
def cntV (B:CB):Value:= .func (.func 158) #[] #[.pointer (some ⟨B.mc,0,none⟩),.pointer (some ⟨B.wc,0,none⟩),.pointer (some ⟨B.cb,0,none⟩)]
structure Ct (w:World) (wb mb:Nat) (B:CB) (p:Nat) (R:ArR) (S:ArS) (A:Nat→Abs) (t:Nat) (K:List Int) (m:Int→Int):Prop where
 hd:Hd w wb WT [.map (some mb)] p R S A t 0
 map:MapN w B.nb K m
 no:¬Own p R B.nb
 cm:Blk w B.mc B.y1 #[.map (some B.nb)]
 cw:Blk w B.wc B.y2 #[.pointer (some ⟨wb,0,none⟩)]
 cc:Blk w B.cb B.y3 #[cntV B]
 nm:¬Own p R B.mc∧B.mc≠wb
 nw:¬Own p R B.wc∧B.wc≠wb
 nc:¬Own p R B.cb∧B.cb≠wb
 nodup:K.Nodup
 memo:∀x∈K,∃T,Has S A t x T∧m x=cntW T
 zero:0∈K
 one:1∈K
section
variable {w w1 : World} {wb mb p t : Nat} {B : CB} {R R1 : ArR} {S S' : ArS} {A A' : Nat → Abs} {K : List Int} {m : Int → Int}
theorem Ct.ne (h:Ct w wb mb B p R S A t K m):B.nb≠wb:=h.map.ne h.hd.blk
theorem not_two {a wb p:Nat} {R:ArR} (h:¬Own p R a∧a≠wb):¬(Own p R a∨a=wb):=fun ho=>by
 rcases ho with ho | ho
 ·exact h.1 ho
 ·exact h.2 ho
theorem Ct.hand (h:Ct w wb mb B p R S A t K m) (hd:Hd w1 wb WT [.map (some mb)] p R S A t 0) (hs:StepH (fun b=>b=wb) p R R w w1):Ct w1 wb mb B p R S A t K m:=
 ⟨hd,h.map.mod hs.mod (not_two ⟨h.no,h.ne⟩),h.no,h.cm.mod hs.mod (not_two h.nm),h.cw.mod hs.mod (not_two h.nw),h.cc.mod hs.mod (not_two h.nc),h.nm,h.nw,h.nc,h.nodup,h.memo,h.zero,h.one⟩
theorem has_num (hi:Hd w wb WT [.map (some mb)] p R S A t 0) {x:Int} {T:Tree} (hT:Has S A t x T):∃i:Nat,i<200002∧x=(i:Int):=by
 have hl:=hi.inv.lenN
 cases T with
 | dead=>have h0:=hT.1;simp only [Den] at h0;exact ⟨0,by omega,h0⟩
 | alive=>have h0:=hT.1;simp only [Den] at h0;exact ⟨1,by omega,h0⟩
 | node a b c d=>
   have h0:=hT.1
   simp only [Den] at h0
   obtain ⟨i,e,rfl,h3,_⟩:=h0
   have:=(List.getElem?_eq_some_iff.1 h3).1
   exact ⟨i,by omega,rfl⟩
theorem Ct.few (h:Ct w wb mb B p R S A t K m):K.length<maxLen:=by
 have:K.length≤((List.range 200002).map fun i:Nat=>(i:Int)).length:=List.Nodup.length_le_of_subset h.nodup fun x hx=>by
  obtain ⟨T,hT,_⟩:=h.memo x hx
  obtain ⟨i,h1,rfl⟩:=has_num h.hd hT
  exact List.mem_map.2 ⟨i,List.mem_range.2 h1,rfl⟩
 rw [List.length_map,List.length_range] at this
 unfold maxLen;omega
theorem Ct.put (h:Ct w wb mb B p R S A t K m) {x:Int} {T:Tree} (hT:Has S A t x T) {v:Int} (hvv:v=cntW T):
 ∃w',(Instr.mapUpdate 234 (.map (some B.nb)) (.int .i64 x) (.int .i64 v)).run Tryz.prog w= .ok () w'∧Ct w' wb mb B p R S A t (if x∈K then K else x::K) (fun y=>if y=x then v else m y)∧StepH (WX wb B.nb) p R R w w':=by
 obtain ⟨w',h3,h4,h5⟩:=h.map.put (x:=x) (v:=v) (hT.1.i64 h.hd.inv) h.few (by rw [hvv];exact cntW_i64 T)
 have hup:∀y,y∈K→y∈(if x∈K then K else x::K):=fun y hy=>by
  split
  ·exact hy
  ·exact List.mem_cons_of_mem _ hy
 refine ⟨w',h3,⟨h.hd.keep h5 (fun b hb e=>h.no (e▸hb)) (fun e=>h.ne e.symm),h4,h.no,h.cm.mod h5 (fun e=>h.map.ne h.cm e.symm),h.cw.mod h5 (fun e=>h.map.ne h.cw e.symm),h.cc.mod h5 (fun e=>h.map.ne h.cc e.symm),h.nm,h.nw,h.nc,?_,fun y hy=>?_,hup _ h.zero,hup _ h.one⟩,h5.mono fun b _ e=> .inr (.inr e),fun _ h=> .inl h⟩
 ·split
  ·exact h.nodup
  ·exact List.nodup_cons.2 ⟨by assumption,h.nodup⟩
 by_cases e:y=x
 ·subst e
  exact ⟨T,hT,by simp only [if_true];exact hvv⟩
 ·obtain ⟨T',g2,g3⟩:=h.memo y (by
   split at hy
   ·exact hy
   ·rcases List.mem_cons.1 hy with q | q
    ·exact absurd q e
    ·exact q)
  exact ⟨T',g2,by simp only [e,if_false];exact g3⟩
end
def CtPost (w:World) (wb mb:Nat) (B:CB) (p:Nat) (R:ArR) (S:ArS) (A:Nat→Abs) (t:Nat) (T:Tree) (e:Ending) (w':World):Prop:=
 ∃(K:List Int) (m:Int→Int),e= .returned (.int .i64 (cntW T))∧Ct w' wb mb B p R S A t K m∧StepH (WX wb B.nb) p R R w w'
def CtOk (T:Tree):Prop:=∀(w:World) (wb mb:Nat) (B:CB) (p:Nat) (R:ArR) (S:ArS) (A:Nat→Abs) (t:Nat) (K:List Int) (m:Int→Int),Ct w wb mb B p R S A t K m→∀id:Int,Has S A t id T→
 Calls Tryz.prog 158 #[.int .i64 id,.pointer (some ⟨B.mc,0,none⟩),.pointer (some ⟨B.wc,0,none⟩),.pointer (some ⟨B.cb,0,none⟩)] w (CtPost w wb mb B p R S A t T)
theorem enters_cnt:∀args w,(callFunc 158 args).run Tryz.prog w= .ok (.enter 158 args) w:=enters_of Tryz.func158 (by kernel_rfl) rfl
theorem cnt_known {T:Tree} (w:World) (wb mb:Nat) (B:CB) (p:Nat) (R:ArR) (S:ArS) (A:Nat→Abs) (t:Nat) (K:List Int) (m:Int→Int) (h:Ct w wb mb B p R S A t K m) (id:Int) (hT:Has S A t id T) (hK:id∈K):
 Calls Tryz.prog 158 #[.int .i64 id,.pointer (some ⟨B.mc,0,none⟩),.pointer (some ⟨B.wc,0,none⟩),.pointer (some ⟨B.cb,0,none⟩)] w (CtPost w wb mb B p R S A t T):=by
 have H:=Lib.hid h
 have d0:w.cell? ⟨B.mc,0,none⟩=some (.map (some B.nb)):=h.cm.cellS rfl
 have d1:w.cell? ⟨B.wc,0,none⟩=some (.pointer (some ⟨wb,0,none⟩)):=h.cw.cellS rfl
 have hlk:=h.map.look_ok (hT.1.i64 h.hd.inv)
 have hm:m id=cntW T:=by
  obtain ⟨T',g1,g2⟩:=h.memo id hK
  rw [g2,Den.fn h.hd.inv g1.1 hT.1]
 rw [hm,decide_eq_true hK] at hlk
 clear h hT hm hK
 go_enter Tryz.func158,Tryz.ntmps158
 go_wp2_with fail
 go_ret
 exact ⟨K,m,rfl,H.out,StepH.refl _ p R w⟩
def sumW (T:Nat→Tree):Nat→Int
 | 0=>0
 | j+1=>addW (sumW T j) (cntW (T j))
theorem sumW_four (T:Nat→Tree):cntW (.node (T 0) (T 1) (T 2) (T 3))=sumW T 4:=rfl
theorem sumW_i64 (T:Nat→Tree):∀j,i64r (sumW T j)
 | 0=>by show i64r 0;exact ⟨by decide,by decide⟩
 | _+1=>addW_i64 _ _
set_option maxRecDepth 100000 in
set_option maxHeartbeats 3200000 in
theorem cnt_node (T:Nat→Tree) (ih:∀j,j<4→CtOk (T j)):CtOk (.node (T 0) (T 1) (T 2) (T 3)):=by
 intro w wb mb B p R S A t K m h id hT
 by_cases hK:id∈K
 ·exact cnt_known w wb mb B p R S A t K m h id hT hK
 ·have H:=Lib.hid h
  have HT:=Lib.hid hT
  have HNK:=Lib.hid hK
  have d0:w.cell? ⟨B.mc,0,none⟩=some (.map (some B.nb)):=h.cm.cellS rfl
  have d1:w.cell? ⟨B.wc,0,none⟩=some (.pointer (some ⟨wb,0,none⟩)):=h.cw.cellS rfl
  have hlk:=h.map.look_ok (hT.1.i64 h.hd.inv)
  rw [decide_eq_false hK] at hlk
  have HEN:=enters_cnt
  have HKD:=Lib.hid (hkids_any w wb WT [.map (some mb)] p R S A t 0 h.hd id _ _ _ _ (fun _=>hT))
  clear h hT hK
  go_enter Tryz.func158,Tryz.ntmps158
  go_wp2_with fail
  (with_reducible refine HKD.out.mono ?_)
  rintro e w1 ⟨k0,k1,k2,k3,rfl,hkh,_,hd1,hs1⟩
  obtain ⟨g0,g1,g2,g3⟩:=hkh rfl
  have HQ:Hid (∀j,j<4→Has S A t (qAt k0 k1 k2 k3 j) (T j)):=fun j hj=>by
   rcases (by omega:j=0∨j=1∨j=2∨j=3) with rfl | rfl | rfl | rfl<;>assumption
  have HW1:=Lib.hid (H.out.hand hd1 hs1)
  have HS1:Hid (StepH (WX wb B.nb) p R R w w1):=hs1.wide fun b _ e=> .inl e
  clear hkh hd1 hs1 g0 g1 g2 g3 HKD hlk
  go_wp2_with fail
  go_loopw [24,8] (fun iv nv wx=>∃(j:Nat) (K':List Int) (m':Int→Int),iv= .int .i64 j∧j≤4∧nv= .int .i64 (sumW T j)∧Ct wx wb mb B p R S A t K' m'∧StepH (WX wb B.nb) p R R w wx) (fun iv _ _=>4-(intOf iv).toNat)
  case atStart=>exact ⟨0,K,m,rfl,Nat.zero_le _,rfl,HW1.out,HS1.out⟩
  case round=>
   obtain ⟨j,K',m',rfl,hj,rfl,hW,hS⟩:=hrel
   have HW:=Lib.hid hW
   have HS:=Lib.hid hS
   clear hW hS
   by_cases hj4:j<4
   ·have hq:=fun w=>idx4 k0 k1 k2 k3 j hj4 w
    have HI:=Lib.hid (ih j hj4 wr wb mb B p R S A t K' m' HW.out _ (HQ.out j hj4))
    have HJ4:=Lib.hid hj4
    have HSE:Hid (sumW T (j+1)=addW (sumW T j) (cntW (T j))):=rfl
    have hlt:(j:Int)<4:=by omega
    have hwi:=wrap_nat' j (by unfold maxLen;omega)
    have d3:wr.cell? ⟨B.cb,0,none⟩=some (.func (.func 158) #[] #[.pointer (some ⟨B.mc,0,none⟩),.pointer (some ⟨B.wc,0,none⟩),.pointer (some ⟨B.cb,0,none⟩)]):=HW.out.cc.cellS rfl
    have hg0:=cntW_i64 (T j)
    have hu0:=sumW_i64 T j
    generalize hG:cntW (T j)=g at*
    generalize hU:sumW T j=u at*
    obtain ⟨hg1,hg2⟩:=hg0
    obtain ⟨hu1,hu2⟩:=hu0
    have HG:=Lib.hid hG
    have HU:=Lib.hid hU
    clear hG hU
    clear hj4 hj
    go_wp2_with fail
    (with_reducible refine HI.out.mono ?_)
    rintro e w3 ⟨K2,m2,rfl,hw3,hs3⟩
    rw [HG.out]
    have HW3:=Lib.hid hw3
    have HS3:=Lib.hid (HS.out.trans hs3)
    clear hw3 hs3 HI
    go_wp2_with fail
    go_roundw
    case rel=>exact ⟨j+1,K2,m2,by go_num,HJ4.out,by rw [HSE.out];unfold addW;rw [IntWalk.i64_left],HW3.out,HS3.out⟩
    case measure=>simp [intOf];have:=HJ4.out;omega
   ·have hj5:j=4:=by omega
    subst hj5
    have HSF:=Lib.hid (sumW_four T)
    obtain ⟨w4,hrun,hw4,hs4⟩:=HW.out.put HT.out (v:=sumW T 4) (by rw [HSF.out])
    have HW4:=Lib.hid hw4
    have HS4:=Lib.hid (HS.out.trans hs4)
    have d2:wr.cell? ⟨B.mc,0,none⟩=some (.map (some B.nb)):=HW.out.cm.cellS rfl
    clear hj hj4 hw4 hs4 d0 d1
    go_wp2_with fail
    go_ret
    exact ⟨_,_,by rw [HSF.out];rfl,HW4.out,HS4.out⟩
theorem cnt_any:∀T:Tree,CtOk T
 | .dead=>fun w wb mb B p R S A t K m h id hT=>cnt_known w wb mb B p R S A t K m h id hT (by have:=hT.1;simp only [Den] at this;rw [this];exact h.zero)
 | .alive=>fun w wb mb B p R S A t K m h id hT=>cnt_known w wb mb B p R S A t K m h id hT (by have:=hT.1;simp only [Den] at this;rw [this];exact h.one)
 | .node a b c d=>by
   have h0:=cnt_any a
   have h1:=cnt_any b
   have h2:=cnt_any c
   have h3:=cnt_any d
   exact cnt_node (fun j=>if j=0 then a else if j=1 then b else if j=2 then c else d) fun j hj=>by
    rcases (by omega:j=0∨j=1∨j=2∨j=3) with rfl | rfl | rfl | rfl<;>assumption
end Go.Proofs.YthohnjgnpapnoaaGreatDoor
namespace Go.Proofs.YthohnjgnpapnoaaGreatDoor
open Go.RowKit
def cntR (T:Tree):Int×Int:=if 4611686018427387904≤cntW T then (0,5) else (cntW T,0)
def CountP (w:World) (p:Nat) (R:ArR) (S:ArS) (A:Nat→Abs) (T:Tree) (e:Ending) (w':World):Prop:=
 e= .returned (.tuple #[.int .i64 (cntR T).1,.int .i64 (cntR T).2])∧Ar w' p R S A∧StepH NoX p R R w w'
theorem lit_counts {w:World} {b:Nat} (h:MapN w b [] (fun _=>0)):
 ∃wB wC,(Instr.mapUpdate 234 (.map (some b)) (.int .i64 0) (.int .i64 0)).run Tryz.prog w= .ok () wB∧(Instr.mapUpdate 234 (.map (some b)) (.int .i64 1) (.int .i64 1)).run Tryz.prog wB= .ok () wC∧Mod (fun q=>q=b) w wC∧∃m,MapN wC b [1,0] m∧m 0=0∧m 1=1:=by
 obtain ⟨wB,r1,h1,m1⟩:=h.put (x:=0) (v:=0) ⟨by decide,by decide⟩ (by unfold maxLen;simp) ⟨by decide,by decide⟩
 rw [if_neg (by simp)] at h1
 obtain ⟨wC,r2,h2,m2⟩:=h1.put (x:=1) (v:=1) ⟨by decide,by decide⟩ (by unfold maxLen;simp) ⟨by decide,by decide⟩
 rw [if_neg (by simp)] at h2
 exact ⟨wB,wC,r1,r2,m1.trans m2 (fun _ _ e=>e),_,h2,rfl,rfl⟩
structure Cs (w:World) (wb mb:Nat) (nb mc wc:Nat) (p:Nat) (R:ArR) (S:ArS) (A:Nat→Abs) (t:Nat) (m:Int→Int):Prop where
 hd:Hd w wb WT [.map (some mb)] p R S A t 0
 map:MapN w nb [1,0] m
 no:¬Own p R nb
 cm:Blk w mc 234 #[.map (some nb)]
 cw:Blk w wc 232 #[.pointer (some ⟨wb,0,none⟩)]
 nm:¬Own p R mc∧mc≠wb
 nw:¬Own p R wc∧wc≠wb
 m0:m 0=0
 m1:m 1=1
section
variable {w w1 wC : World} {wb mb nb mc wc p t : Nat} {R : ArR} {S : ArS} {A : Nat → Abs} {K : List Int} {m m' : Int → Int}
theorem cs_start (h:Wk w1 wb mb p R S A t 0 K m') (hm:Mod (fun q=>q=w1.heap.size+1) ((w1.alloc (.cells #[.pointer (some ⟨wb,0,none⟩)] 232)).alloc (.map #[] 0)) wC) (hM:MapN wC (w1.heap.size+1) [1,0] m) (h0:m 0=0) (h1:m 1=1):
 Cs (wC.alloc (.cells #[.map (some (w1.heap.size+1))] 234)) wb mb (w1.heap.size+1) wC.heap.size w1.heap.size p R S A t m:=by
 have hlt:=h.hd.blk.lt
 have hno:∀b,w1.heap.size≤b→¬Own p R b:=fun b hb ho=>by have:=h.hd.arm.own_lt ho;omega
 have hsz:=hm.size
 rw [World.size_alloc,World.size_alloc] at hsz
 have hB:Below w1.heap.size w1 ((w1.alloc (.cells #[.pointer (some ⟨wb,0,none⟩)] 232)).alloc (.map #[] 0)):=((Below.refl _ _).alloc (Nat.le_refl _) _).alloc (by simp) _
 have hC:Below wC.heap.size wC (wC.alloc (.cells #[.map (some (w1.heap.size+1))] 234)):=(Below.refl _ _).alloc (Nat.le_refl _) _
 have hd1:=(h.hd.below hB).keep hm (fun b hb e=>hno b (by omega) hb) (by omega)
 exact ⟨hd1.alloc _,hM.mod (Mod.of_below_all hC) (fun h=>h),hno _ (by omega),Blk.new _ _ _,(((Blk.new w1 232 _).alloc _).mod hm (by omega)).alloc _,⟨hno _ (by omega),by omega⟩,⟨hno _ (by omega),by omega⟩,h0,h1⟩
theorem Cs.hand (h:Cs w wb mb nb mc wc p R S A t m) (hd:Hd w1 wb WT [.map (some mb)] p R S A t 0) (hs:StepH (fun b=>b=wb) p R R w w1):Cs w1 wb mb nb mc wc p R S A t m:=
 ⟨hd,h.map.mod hs.mod (not_two ⟨h.no,h.map.ne h.hd.blk⟩),h.no,h.cm.mod hs.mod (not_two h.nm),h.cw.mod hs.mod (not_two h.nw),h.nm,h.nw,h.m0,h.m1⟩
theorem Cs.ct (h:Cs w wb mb nb mc wc p R S A t m) (y:TypeId):Ct (w.alloc (.cells #[cntV ⟨nb,mc,wc,w.heap.size,234,232,y⟩] y)) wb mb ⟨nb,mc,wc,w.heap.size,234,232,y⟩ p R S A t [1,0] m:=by
 have hlt:=h.hd.blk.lt
 have hC:Below w.heap.size w (w.alloc (.cells #[cntV ⟨nb,mc,wc,w.heap.size,234,232,y⟩] y)):=(Below.refl _ _).alloc (Nat.le_refl _) _
 exact ⟨h.hd.alloc _,h.map.mod (Mod.of_below_all hC) (fun h=>h),h.no,h.cm.alloc _,h.cw.alloc _,Blk.new _ _ _,h.nm,h.nw,⟨fun ho=>Nat.lt_irrefl _ (h.hd.arm.own_lt ho),by show w.heap.size≠wb;omega⟩,by decide,fun x hx=>by
  simp at hx
  rcases hx with rfl | rfl
  ·exact ⟨.alive,⟨by simp only [Den],rfl⟩,by rw [h.m1];rfl⟩
  ·exact ⟨.dead,⟨by simp only [Den],rfl⟩,by rw [h.m0];rfl⟩,by simp,by simp⟩
end
set_option maxRecDepth 100000 in
set_option maxHeartbeats 3200000 in
theorem qcount_any (w:World) (p:Nat) (R:ArR) (S:ArS) (A:Nat→Abs) (h:Ar w p R S A) (t:Nat) (ht:t<64) (T:Tree) (root:Int) (hr:Has S A t root T):
 Calls Tryz.prog 111 #[.pointer (some ⟨p,0,none⟩),.int .i64 t,.int .i64 root] w (CountP w p R S A T):=by
 have HR:=Lib.hid hr
 have HW:=Lib.hid (walk_any w p R S A h t ht)
 have H:=Lib.hid h
 have HEN:=enters_cnt
 have hmm:=@run_makeMap Tryz.prog
 clear h hr ht
 go_enter Tryz.func111,Tryz.ntmps111
 go_wp2_with fail
 (with_reducible refine HW.out.mono ?_)
 rintro e w1 ⟨wb,mb,rfl,hw1,hb1,hl1,hl2⟩
 have HW1:=Lib.hid hw1
 have HB1:=Lib.hid hb1
 have HL1:=Lib.hid (And.intro hl1 hl2)
 obtain ⟨wB,wC,r1,r2,hm,m,hM,hm0,hm1⟩:=lit_counts (w:=(w1.alloc (.cells #[.pointer (some ⟨wb,0,none⟩)] 232)).alloc (.map #[] 0)) (b:=w1.heap.size+1) (by
  have:=MapN.made (w1.alloc (.cells #[.pointer (some ⟨wb,0,none⟩)] 232))
  rw [World.size_alloc] at this;exact this)
 have hcs:=cs_start hw1 hm hM hm0 hm1
 have HCS:=Lib.hid hcs
 have HV:=Lib.hid (hlevel_any _ wb WT [.map (some mb)] p R S A t 0 hcs.hd root T (fun _=>HR.out))
 have d1:=hcs.cw.cellS (i:=0) rfl
 have HST:Hid (∀w2,StepH (fun b=>b=wb) p R R (wC.alloc (.cells #[.map (some (w1.heap.size+1))] 234)) w2→StepH (fun b=>w.heap.size≤b) p R R w w2):=fun w2 hs=>by
  have h0:=hb1.size
  have s1:StepH (fun b=>w.heap.size≤b) p R R w w1:=StepH.of_below hb1
  have s2:=(s1.alloc (.cells #[.pointer (some ⟨wb,0,none⟩)] 232)).alloc (.map #[] 0)
  have s3:StepH (fun b=>w.heap.size≤b) p R R ((w1.alloc (.cells #[.pointer (some ⟨wb,0,none⟩)] 232)).alloc (.map #[] 0)) wC:=⟨hm.mono fun b _ e=> .inr (by omega),fun _ h=> .inl h⟩
  exact ((s2.trans s3).alloc _).trans (hs.wide fun b _ e=>by subst e;exact hl1)
 clear hw1 hb1 hl1 hl2 HW hm hM hcs
 go_wp2_with fail
 (with_reducible refine HV.out.mono ?_)
 rintro e w2 ⟨lv,rfl,hlv,hd2,hs2⟩
 have hc2:=HCS.out.hand hd2 hs2
 have HC2:=Lib.hid hc2
 have c2:=hc2.hd.c2
 have d2:w2.cell? ⟨w1.heap.size,0,none⟩=some (.pointer (some ⟨wb,0,none⟩)):=hc2.cw.cellS (i:=0) rfl
 have HCT:=Lib.hid (hc2.ct 50)
 have hcall:=cnt_any T _ wb mb _ p R S A t _ m HCT.out root HR.out
 have HCALL:=Lib.hid hcall
 have HS2:Hid (StepH (fun b=>w.heap.size≤b) p R R w w2):=HST.out w2 hs2
 clear hlv hd2 hs2 HV r1 r2 hc2 hcall d1
 unfold cntV at HCALL
 go_wp2_with fail
 (with_reducible refine HCALL.out.mono ?_)
 rintro e w3 ⟨K3,m3,rfl,hc3,hs3⟩
 have c2:=hc3.hd.c2
 have d2:w3.cell? ⟨w1.heap.size,0,none⟩=some (.pointer (some ⟨wb,0,none⟩)):=hc3.cw.cellS (i:=0) rfl
 have HA:Hid (Ar w3 p R S A):=hc3.hd.ar
 have HS3:Hid (StepH NoX p R R w w3):=((HS2.out.alloc _).trans (hs3.wide fun b _ e=>(by
  have h1:=HL1.out
  have h2:=HB1.out.size
  rcases e with e | e
  ·omega
  ·have e2:b=w1.heap.size+1:=e
   show w.heap.size≤b
   omega))).wide fun b hb e=>(by omega)
 have hci:=cntW_i64 T
 clear hc3 hs3 HCALL
 generalize hN:cntW T=n at hci ⊢
 have HN:=Lib.hid hN
 obtain ⟨hc1,hc2⟩:=hci
 clear hN
 by_cases hge:4611686018427387904≤n
 ·have hdc:decide (4611686018427387904≤n)=true:=decide_eq_true hge
  have HGE:Hid (cntR T=(0,5)):=by show cntR T=_;unfold cntR;rw [HN.out];exact if_pos hge
  go_wp2_with fail
  go_returns
  exact ⟨by rw [HGE.out];rfl,HA.out,HS3.out⟩
 ·have hdc:decide (4611686018427387904≤n)=false:=decide_eq_false hge
  have HGE:Hid (cntR T=(n,0)):=by show cntR T=_;unfold cntR;rw [HN.out];exact if_neg hge
  go_wp2_with fail
  go_returns
  exact ⟨by rw [HGE.out];rfl,HA.out,HS3.out⟩
end Go.Proofs.YthohnjgnpapnoaaGreatDoor
