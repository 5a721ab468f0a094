/- What the squares of an arena are: trees. · What Clean does, in plain words. · arena: take. · arena: a whole entry is written; the index is another. · arena: Sweep. · arena: one more thing that a tenant was given. -/
import Derived.Test.YthohnjgnpapnoaaGreatDoorR5
set_option linter.unusedVariables false
set_option linter.unusedSimpArgs false
namespace Go.Proofs.YthohnjgnpapnoaaGreatDoor
open Go.RowKit
inductive Thing where
 | sq (a b c d:Tree):Thing
 | note (x:Tree) (r j:Int):Thing
 deriving DecidableEq
def sqOf:Tree→Thing
 | .node a b c d=> .sq a b c d
 | _=> .note .dead 0 0
def nineT (b l:Int) (n:Nat) (T:Tree) (j:Int) (y x:Nat):Tree:=if j=((n+1:Nat):Int) then resT b l n (fourT (gT T) y x) (j-1) else midT (fourT (gT T) y x)
def Inn (b l r:Int):Nat→Tree→Int→List Thing→Prop
 | 0,T,_,V=>sqOf (smallT b l (gT T))∈V
 | n+1,T,j,V=>
   (∀y x,y<3→x<3→sqOf (fourT (gT T) y x)∈V∧(j=((n+1:Nat):Int)→Thing.note (fourT (gT T) y x) r (j-1)∈V)∧(j≠((n+1:Nat):Int)→sqOf (midT (fourT (gT T) y x))∈V))∧
   (∀y x,y<2→x<2→sqOf (fourT (nineT b l n T j) y x)∈V∧Thing.note (fourT (nineT b l n T j) y x) r (if j=((n+1:Nat):Int) then j-1 else j)∈V)∧
   sqOf (resT b l (n+1) T j)∈V
theorem Inn.mono {b l r:Int} {V V':List Thing} (hv:∀x∈V,x∈V'):∀{n:Nat} {T:Tree} {j:Int},Inn b l r n T j V→Inn b l r n T j V'
 | 0,_,_,h=>hv _ h
 | _+1,_,_,h=>⟨fun y x hy hx=>⟨hv _ (h.1 y x hy hx).1,fun e=>hv _ ((h.1 y x hy hx).2.1 e),fun e=>hv _ ((h.1 y x hy hx).2.2 e)⟩,fun y x hy hx=>⟨hv _ (h.2.1 y x hy hx).1,hv _ (h.2.1 y x hy hx).2⟩,hv _ h.2.2⟩
def Den (S:ArS):Int→Tree→Prop
 | id,.dead=>id=0
 | id,.alive=>id=1
 | id,.node a b c d=>∃(i:Nat) (e:EntD),id=i∧S.ents[i]? =some e∧S.idx e.key=some (i:Int)∧e.key.kind=0∧e.level=a.lvl+1∧Den S e.key.a0 a∧Den S e.key.a1 b∧Den S e.key.a2 c∧Den S e.key.a3 d
def DenT (S:ArS) (i:Nat):Thing→Prop
 | .sq a b c d=>Den S i (.node a b c d)
 | .note x r j=>∃e,S.ents[i]? =some e∧S.idx e.key=some (i:Int)∧e.key.kind=1∧e.key.a1=r∧e.key.a2=j∧e.key.a3=0∧Den S e.key.a0 x∧Den S e.value (noteV x r j)
section
variable {S : ArS}
theorem Inv.two (h:Inv S) {k:KeyA} {i:Nat} (hx:S.idx k=some (i:Int)):2≤i:=by
 obtain ⟨j,_,h1,h2,_⟩:=h.idx _ _ hx
 omega
theorem Den.fn (h:Inv S):∀{x y:Tree} {id:Int},Den S id x→Den S id y→x=y
 | .dead,.dead,_,_,_=>rfl
 | .alive,.alive,_,_,_=>rfl
 | .dead,.alive,id,h1,h2=>by simp only [Den] at h1 h2;omega
 | .alive,.dead,id,h1,h2=>by simp only [Den] at h1 h2;omega
 | .dead,.node ..,id,h1,h2=>by
   simp only [Den] at h1 h2;obtain ⟨i,e,h3,h4,h5,_⟩:=h2;have:=h.two h5;omega
 | .alive,.node ..,id,h1,h2=>by
   simp only [Den] at h1 h2;obtain ⟨i,e,h3,h4,h5,_⟩:=h2;have:=h.two h5;omega
 | .node ..,.dead,id,h2,h1=>by
   simp only [Den] at h1 h2;obtain ⟨i,e,h3,h4,h5,_⟩:=h2;have:=h.two h5;omega
 | .node ..,.alive,id,h2,h1=>by
   simp only [Den] at h1 h2;obtain ⟨i,e,h3,h4,h5,_⟩:=h2;have:=h.two h5;omega
 | .node a b c d,.node a' b' c' d',id,h1,h2=>by
   simp only [Den] at h1 h2
   obtain ⟨i,e,h3,h4,h5,h6,h7,g0,g1,g2,g3⟩:=h1
   obtain ⟨i',e',h3',h4',h5',h6',h7',g0',g1',g2',g3'⟩:=h2
   have hi:i=i':=by omega
   subst hi
   rw [h4] at h4';cases h4'
   rw [Den.fn h g0 g0',Den.fn h g1 g1',Den.fn h g2 g2',Den.fn h g3 g3']
theorem KeyA.ext {k k':KeyA} (h:k.kind=k'.kind) (h0:k.a0=k'.a0) (h1:k.a1=k'.a1) (h2:k.a2=k'.a2) (h3:k.a3=k'.a3):k=k':=by
 cases k;cases k';simp at h h0 h1 h2 h3;subst h h0 h1 h2 h3;rfl
theorem Den.inj:∀{x:Tree} {i j:Int},Den S i x→Den S j x→i=j
 | .dead,i,j,h1,h2=>by simp only [Den] at h1 h2;omega
 | .alive,i,j,h1,h2=>by simp only [Den] at h1 h2;omega
 | .node a b c d,id,jd,h1,h2=>by
   simp only [Den] at h1 h2
   obtain ⟨i,e,rfl,h4,h5,h6,h7,g0,g1,g2,g3⟩:=h1
   obtain ⟨i',e',rfl,h4',h5',h6',h7',g0',g1',g2',g3'⟩:=h2
   have hk:e.key=e'.key:=KeyA.ext (h6.trans h6'.symm) (Den.inj g0 g0') (Den.inj g1 g1') (Den.inj g2 g2') (Den.inj g3 g3')
   rw [hk,h5'] at h5
   exact (Option.some.inj h5).symm
theorem Den.level (h:Inv S):∀{x:Tree} {id:Int},Den S id x→levelOf S id=x.lvl
 | .dead,id,h1=>by simp only [Den] at h1;subst h1;unfold levelOf;simp [h.zero.1,zeroE,Tree.lvl]
 | .alive,id,h1=>by simp only [Den] at h1;subst h1;unfold levelOf;simp [h.zero.2,zeroE,Tree.lvl]
 | .node a b c d,id,h1=>by
   simp only [Den] at h1
   obtain ⟨i,e,rfl,h4,h5,h6,h7,_⟩:=h1
   unfold levelOf
   rw [Int.toNat_natCast,h4]
   exact h7
theorem DenT.ent {i:Nat}:∀{x:Thing},DenT S i x→∃e,S.ents[i]? =some e∧S.idx e.key=some (i:Int)
 | .sq ..,h1=>by
   simp only [DenT,Den] at h1
   obtain ⟨j,e,h3,h4,h5,_⟩:=h1
   have:j=i:=by omega
   subst this
   exact ⟨e,h4,h5⟩
 | .note ..,h1=>by obtain ⟨e,h4,h5,_⟩:=h1;exact ⟨e,h4,h5⟩
theorem DenT.fn (h:Inv S) {i:Nat}:∀{x y:Thing},DenT S i x→DenT S i y→x=y
 | .sq a b c d,.sq a' b' c' d',h1,h2=>by have:=Den.fn h h1 h2;injection this with e0 e1 e2 e3;rw [e0,e1,e2,e3]
 | .sq ..,.note ..,h1,h2=>by
   simp only [DenT,Den] at h1 h2
   obtain ⟨j,e,h3,h4,h5,h6,_⟩:=h1
   obtain ⟨e',h4',h5',h6',_⟩:=h2
   have:j=i:=by omega
   subst this
   rw [h4] at h4';cases h4';omega
 | .note ..,.sq ..,h2,h1=>by
   simp only [DenT,Den] at h1 h2
   obtain ⟨j,e,h3,h4,h5,h6,_⟩:=h1
   obtain ⟨e',h4',h5',h6',_⟩:=h2
   have:j=i:=by omega
   subst this
   rw [h4] at h4';cases h4';omega
 | .note x r j,.note x' r' j',h1,h2=>by
   obtain ⟨e,h4,h5,h6,h7,h8,h9,h10,_⟩:=h1
   obtain ⟨e',h4',h5',h6',h7',h8',h9',h10',_⟩:=h2
   rw [h4] at h4';cases h4'
   rw [Den.fn h h10 h10',←h7,←h8,h7',h8']
theorem DenT.inj {i j:Nat}:∀{x:Thing},DenT S i x→DenT S j x→i=j
 | .sq ..,h1,h2=>by have:=Den.inj h1 h2;omega
 | .note ..,h1,h2=>by
   obtain ⟨e,h4,h5,h6,h7,h8,h9,h10,_⟩:=h1
   obtain ⟨e',h4',h5',h6',h7',h8',h9',h10',_⟩:=h2
   have hk:e.key=e'.key:=KeyA.ext (h6.trans h6'.symm) (Den.inj h10 h10') (h7.trans h7'.symm) (h8.trans h8'.symm) (h9.trans h9'.symm)
   rw [hk,h5'] at h5
   have:=Option.some.inj h5;omega
def Stays (P:EntD→Prop) (S S':ArS):Prop:=∀(i:Nat) e,S.ents[i]? =some e→S.idx e.key=some (i:Int)→P e→∃e',S'.ents[i]? =some e'∧e'.key=e.key∧e'.level=e.level∧e'.value=e.value∧S'.idx e.key=some (i:Int)
theorem Den.stays {S':ArS} (h:Stays (fun _=>True) S S'):∀{x:Tree} {id:Int},Den S id x→Den S' id x
 | .dead,_,h1=>h1
 | .alive,_,h1=>h1
 | .node a b c d,id,h1=>by
   simp only [Den] at h1 ⊢
   obtain ⟨i,e,rfl,h4,h5,h6,h7,g0,g1,g2,g3⟩:=h1
   obtain ⟨e',k1,k2,k3,_,k4⟩:=h i e h4 h5 trivial
   refine ⟨i,e',rfl,k1,by rw [k2];exact k4,by rw [k2];exact h6,by rw [k3];exact h7,?_,?_,?_,?_⟩
   ·rw [k2];exact Den.stays h g0
   ·rw [k2];exact Den.stays h g1
   ·rw [k2];exact Den.stays h g2
   ·rw [k2];exact Den.stays h g3
theorem DenT.stays {S':ArS} (h:Stays (fun _=>True) S S') {i:Nat}:∀{x:Thing},DenT S i x→DenT S' i x
 | .sq ..,h1=>Den.stays h h1
 | .note ..,h1=>by
   obtain ⟨e,h4,h5,h6,h7,h8,h9,h10,h11⟩:=h1
   obtain ⟨e',k1,k2,k3,k5,k4⟩:=h i e h4 h5 trivial
   refine ⟨e',k1,by rw [k2];exact k4,by rw [k2];exact h6,by rw [k2];exact h7,by rw [k2];exact h8,by rw [k2];exact h9,?_,?_⟩
   ·rw [k2];exact Den.stays h h10
   ·rw [k5];exact Den.stays h h11
end
structure Abs where
 have_:List Thing
 added:List Thing
def hasT (l:List Thing):Tree→Bool
 | .dead=>true
 | .alive=>true
 | .node a b c d=>decide (Thing.sq a b c d∈l)
def kidsIn (l:List Thing):Thing→Prop
 | .sq a b c d=>hasT l a=true∧hasT l b=true∧hasT l c=true∧hasT l d=true
 | .note x r j=>hasT l x=true∧hasT l (noteV x r j)=true∧Inn (r/512) (r%512) r (x.lvl.toNat-2) x j l
theorem hasT.mono {l l':List Thing} (h:∀x∈l,x∈l'):∀{t:Tree},hasT l t=true→hasT l' t=true
 | .dead,_=>rfl
 | .alive,_=>rfl
 | .node ..,h1=>by simp only [hasT,decide_eq_true_eq] at h1 ⊢;exact h _ h1
theorem kidsIn.mono {l l':List Thing} (h:∀x∈l,x∈l'):∀{t:Thing},kidsIn l t→kidsIn l' t
 | .sq ..,h1=>⟨hasT.mono h h1.1,hasT.mono h h1.2.1,hasT.mono h h1.2.2.1,hasT.mono h h1.2.2.2⟩
 | .note ..,h1=>⟨hasT.mono h h1.1,hasT.mono h h1.2.1,h1.2.2.mono h⟩
def restL (A:Abs):List Thing:=A.have_.filter fun x=> !decide (x∈A.added)
structure AOk (A:Abs):Prop where
 nodup:A.have_.Nodup
 closed:∀x∈A.have_,kidsIn A.have_ x
 rest:∀x∈restL A,kidsIn (restL A) x
 added:∀x∈A.added,x∈A.have_
theorem Den.staysO {S S':ArS} (hI:Inv S) (h:Stays (fun e=>e.mask≠0) S S') {l:List Thing} (hc:∀x∈l,kidsIn l x) (ho:∀x∈l,∃(i:Nat) (e:EntD),S.ents[i]? =some e∧e.mask≠0∧DenT S i x):
 ∀{x:Tree} {id:Int},hasT l x=true→Den S id x→Den S' id x
 | .dead,_,_,h1=>h1
 | .alive,_,_,h1=>h1
 | .node a b c d,id,hx,h1=>by
   have hm:Thing.sq a b c d∈l:=of_decide_eq_true hx
   obtain ⟨i',e2,o1,o2,o3⟩:=ho _ hm
   have hij:=Den.inj (S:=S) h1 o3
   obtain ⟨q0,q1,q2,q3⟩:=hc _ hm
   simp only [Den] at h1 ⊢
   obtain ⟨i,e,rfl,h4,h5,h6,h7,g0,g1,g2,g3⟩:=h1
   have hii:i=i':=by omega
   subst hii
   have hee:=Option.some.inj (h4.symm.trans o1)
   subst hee
   obtain ⟨e',k1,k2,k3,_,k4⟩:=h i e h4 h5 o2
   refine ⟨i,e',rfl,k1,by rw [k2];exact k4,by rw [k2];exact h6,by rw [k3];exact h7,?_,?_,?_,?_⟩
   ·rw [k2];exact Den.staysO hI h hc ho q0 g0
   ·rw [k2];exact Den.staysO hI h hc ho q1 g1
   ·rw [k2];exact Den.staysO hI h hc ho q2 g2
   ·rw [k2];exact Den.staysO hI h hc ho q3 g3
theorem DenT.staysO {S S':ArS} (hI:Inv S) (h:Stays (fun e=>e.mask≠0) S S') {l:List Thing} (hc:∀x∈l,kidsIn l x) (ho:∀x∈l,∃(i:Nat) (e:EntD),S.ents[i]? =some e∧e.mask≠0∧DenT S i x)
 {i:Nat}:∀{x:Thing},x∈l→DenT S i x→DenT S' i x
 | .sq ..,hx,h1=>Den.staysO hI h hc ho (x:= .node ..) (decide_eq_true hx) h1
 | .note ..,hx,h1=>by
   obtain ⟨i',e2,o1,o2,o3⟩:=ho _ hx
   have hii:=DenT.inj h1 o3
   subst hii
   obtain ⟨e,h4,h5,h6,h7,h8,h9,h10,h11⟩:=h1
   have hee:=Option.some.inj (h4.symm.trans o1)
   subst hee
   obtain ⟨e',k1,k2,k3,k5,k4⟩:=h i e h4 h5 o2
   refine ⟨e',k1,by rw [k2];exact k4,by rw [k2];exact h6,by rw [k2];exact h7,by rw [k2];exact h8,by rw [k2];exact h9,?_,?_⟩
   ·rw [k2];exact Den.staysO hI h hc ho (hc _ hx).1 h10
   ·rw [k5];exact Den.staysO hI h hc ho (hc _ hx).2.1 h11
end Go.Proofs.YthohnjgnpapnoaaGreatDoor
namespace Go.Proofs.YthohnjgnpapnoaaGreatDoor
open Go.RowKit
def kidsOf (e:EntD):List Int:=[e.key.a0,e.key.a1,e.key.a2,e.key.a3]
inductive Reach (S:ArS) (t:Nat) (roots:List Int):Int→Prop
 | root (x:Int):x∈roots→2≤x→ownsB S t x 0=true→Reach S t roots x
 | kid (i:Nat) (e:EntD) (x:Int):Reach S t roots (i:Int)→S.ents[i]? =some e→x∈kidsOf e→2≤x→ownsB S t x 0=true→Reach S t roots x
structure CleanI (S:ArS) (t:Nat) (roots K W:List Int):Prop where
 nodup:K.Nodup
 kept:∀x∈K,Reach S t roots x
 work:∀x∈W,2≤x→ownsB S t x 0=true→Reach S t roots x
 roots:∀x∈roots,2≤x→ownsB S t x 0=true→x∈K∨x∈W
 kids:∀(i:Nat) e x,(i:Int)∈K→S.ents[i]? =some e→x∈kidsOf e→2≤x→ownsB S t x 0=true→x∈K∨x∈W
theorem Reach.own {S:ArS} {t:Nat} {roots:List Int} {x:Int} (h:Reach S t roots x):2≤x∧ownsB S t x 0=true:=by
 cases h with
 | root _ _ h1 h2=>exact ⟨h1,h2⟩
 | kid _ _ _ _ _ _ h1 h2=>exact ⟨h1,h2⟩
theorem CleanI.start (S:ArS) (t:Nat) (roots:List Int):CleanI S t roots [] roots:=
 {nodup:=List.nodup_nil,kept:=fun _ h=>absurd h List.not_mem_nil,work:=fun x h h2 ho=>Reach.root x h h2 ho,roots:=fun _x h _ _=>Or.inr h,kids:=fun _ _ _ h=>absurd h List.not_mem_nil}
theorem CleanI.skip {S:ArS} {t:Nat} {roots K W:List Int} {x:Int} (h:CleanI S t roots K (W++ [x])) (hx:x∈K∨x<2∨ownsB S t x 0=false):CleanI S t roots K W:=by
 have key:∀y,(y∈K∨y∈W++ [x])→2≤y→ownsB S t y 0=true→y∈K∨y∈W:=by
  intro y hy h2 ho
  rcases hy with hy | hy
  ·exact .inl hy
  ·rcases List.mem_append.1 hy with hy | hy
   ·exact .inr hy
   ·rw [List.mem_singleton] at hy
    subst hy
    rcases hx with h1 | h1 | h1
    ·exact .inl h1
    ·omega
    ·rw [ho] at h1;cases h1
 exact ⟨h.nodup,h.kept,fun y hy=>h.work y (List.mem_append_left _ hy),fun y hy h2 ho=>key y (h.roots y hy h2 ho) h2 ho,fun i e y hi he hy h2 ho=>key y (h.kids i e y hi he hy h2 ho) h2 ho⟩
theorem CleanI.keep {S:ArS} {t:Nat} {roots K W:List Int} {i:Nat} {e:EntD} (h:CleanI S t roots K (W++ [(i:Int)])) (hx:(i:Int)∉K) (h2:2≤i) (ho:ownsB S t i 0=true) (he:S.ents[i]? =some e):
 CleanI S t roots ((i:Int)::K) (W++kidsOf e):=by
 have hr:=h.work i (List.mem_append_right _ (List.mem_singleton.2 rfl)) (by omega) ho
 have key:∀y,(y∈K∨y∈W++ [(i:Int)])→y∈(i:Int)::K∨y∈W++kidsOf e:=by
  intro y hy
  rcases hy with hy | hy
  ·exact .inl (List.mem_cons_of_mem _ hy)
  ·rcases List.mem_append.1 hy with hy | hy
   ·exact .inr (List.mem_append_left _ hy)
   ·rw [List.mem_singleton] at hy;exact .inl (hy▸List.mem_cons_self ..)
 refine ⟨List.nodup_cons.2 ⟨hx,h.nodup⟩,fun y hy=>?_,fun y hy h3 ho3=>?_,fun y hy h3 ho3=>key y (h.roots y hy h3 ho3),fun j e' y hj he' hy h3 ho3=>?_⟩
 ·rcases List.mem_cons.1 hy with rfl | hy
  ·exact hr
  ·exact h.kept y hy
 ·rcases List.mem_append.1 hy with hy | hy
  ·exact h.work y (List.mem_append_left _ hy) h3 ho3
  ·exact .kid i e y hr he hy h3 ho3
 ·rcases List.mem_cons.1 hj with hj | hj
  ·have:j=i:=by omega
   subst this
   rw [he] at he';cases he'
   exact .inr (List.mem_append_right _ hy)
  ·exact key y (h.kids j e' y hj he' hy h3 ho3)
theorem CleanI.done {S:ArS} {t:Nat} {roots K:List Int} (h:CleanI S t roots K []) (_hI:Inv S) (x:Int):x∈K↔Reach S t roots x:=by
 refine ⟨h.kept x,fun hx=>?_⟩
 induction hx with
 | root x h1 h2 h3=>rcases h.roots x h1 h2 h3 with h4 | h4;exact h4;cases h4
 | kid i e x hp he hx h2 h3 ih=>rcases h.kids i e x ih he hx h2 h3 with h4 | h4;exact h4;cases h4
theorem CleanI.len {S:ArS} {t:Nat} {roots K W:List Int} (h:CleanI S t roots K W) (hI:Inv S):K.length≤S.ents.length:=by
 have hs:∀x∈K,x∈(List.range S.ents.length).map (fun n:Nat=>(n:Int)):=fun x hx=>by
  obtain ⟨i,e,h1,h2,_⟩:=owns_range hI.len (h.kept x hx).own.2
  exact List.mem_map.2 ⟨i,List.mem_range.2 h2,h1.symm⟩
 have:=List.Nodup.length_le_of_subset h.nodup hs
 simpa using this
def CleanR (S:ArS) (t:Nat) (roots:List Int) (S':ArS):Prop:=
 ∃L:List Int,(∀x∈L,∃i:Nat,x=i∧2≤i∧i<S.ents.length)∧(∀i:Nat,2≤i→i<S.ents.length→((i:Int)∈L↔¬Reach S t roots i))∧S'={loseL S t L with added:=upd S.added t []}
theorem CleanR.inv {S S':ArS} {t:Nat} {roots:List Int} (h:CleanR S t roots S') (ht:t<64) (hI:Inv S):Inv S':=by
 obtain ⟨L,_,_,rfl⟩:=h
 have h1:=loseL_inv ht L S hI
 have h2:=h1.mark t
 rw [(loseL_keeps t L S).1] at h2
 exact h2
end Go.Proofs.YthohnjgnpapnoaaGreatDoor
namespace Go.Proofs.YthohnjgnpapnoaaGreatDoor
open Go.RowKit
section
variable {w w' : World} {p : Nat} {R : ArR} {S : ArS}
theorem arCells_live (R:ArR) (S:ArS) (x:Int):(arCells R S).setIfInBounds 196 (.int .i64 x)=arCells R {S with live:=x}:=by
 refine arCells_set (by omega) ?_ fun j hj hne=>?_
 ·rfl
 ·unfold arC
  have h196:j<196:=by omega
  simp only [h196,if_true]
theorem arCells_free (R:ArR) (S:ArS) (v:Value) (l:List Int):(arCells R S).setIfInBounds 3 v=arCells {R with fv:=v} {S with free:=l}:=by
 refine arCells_set (by omega) rfl fun j hj hne=>?_
 unfold arC
 simp only [hne,if_false]
theorem arCells_list (R:ArR) (S:ArS) (v:Value) (l:List EntD):(arCells R S).setIfInBounds 1 v=arCells {R with lv:=v} {S with ents:=l}:=by
 refine arCells_set (by omega) rfl fun j hj hne=>?_
 unfold arC
 simp only [hne,if_false]
theorem ArM.fr (h:ArM w p R S):FrM w p 3 AR (arCells R S) R.fv S.free.length S.free:=⟨h.blk,(arCells_at R S 3 (by decide)).trans rfl,h.free,h.p_ne.2.2.1⟩
theorem ArM.of_fr (h:ArM w p R S) {v':Value} {n:Nat} {l:List Int} (hf:FrM w' p 3 AR ((arCells R S).setIfInBounds 3 v') v' n l) (hn:sblk v'=sblk R.fv∨∃q,sblk v'=some q∧w.heap.size≤q) (hm:Mod (fun b=>b=p∨sblk R.fv=some b) w w'):
 ArM w' p {R with fv:=v'} {S with free:=l}∧Step p R {R with fv:=v'} w w':=by
 obtain ⟨n1,n2,n3,n4⟩:=h.p_ne
 have hl:=hf.sl.out
 refine ⟨⟨by rw [←arCells_free R S v' l];exact hf.blk,h.list.mod hm fun b hb hx=>?_,h.idx.of_block (hm.block _ h.idx.lt fun hx=>?_),by rw [hl];exact hf.sl,fun t ht=>(h.added t ht).mod hm fun b hb hx=>?_,fun t ht b hb e=>?_,h.sep2,h.masks⟩,⟨hm.mono fun b _ hx=>?_,fun b hb=>?_⟩⟩
 ·rcases hx with rfl | hx
  ·exact n2 hb
  ·exact (h.list_ne hb).2.2.1 hx
 ·rcases hx with hx | hx
  ·exact n1 hx.symm
  ·exact h.mb_ne.2.1 hx
 ·rcases hx with rfl | hx
  ·exact n4 t ht hb
  ·exact h.sep1 t ht b hx hb
 ·change sblk v'=some b at hb
  rcases hn with h1 | ⟨q,h1,h2⟩
  ·exact h.sep1 t ht b (by rw [←h1];exact hb) e
  ·rw [h1] at hb
   have:=Option.some.inj hb
   have:=((h.added t ht).lt e).1
   omega
 ·rcases hx with rfl | hx
  ·exact .inl rfl
  ·exact .inr (.inr (.inr (.inl hx)))
 ·rcases hb with h1 | h1 | h1 | h1 | h1
  ·exact .inl (.inl h1)
  ·exact .inl (.inr (.inl h1))
  ·exact .inl (.inr (.inr (.inl h1)))
  ·change sblk v'=some b at h1
   rcases hn with h2 | ⟨q,h2,h3⟩
   ·exact .inl (.inr (.inr (.inr (.inl (by rw [←h2];exact h1)))))
   ·rw [h2] at h1;have:=Option.some.inj h1;exact .inr (by omega)
  ·exact .inl (.inr (.inr (.inr (.inr h1))))
theorem ArM.relist (h:ArM w p R S) {w1:World} {v':Value} {l:List EntD} (hm:Mod (fun b=>sblk R.lv=some b) w w1) (hs:Sl w1 EN 8 v' l.length (entsV l)) (hn:sblk v'=sblk R.lv∨∃q,sblk v'=some q∧w.heap.size≤q) (hk:∀e∈l,e.mask<18446744073709551616):
 ArM (w1.setCell ⟨p,1,none⟩ v') p {R with lv:=v'} {S with ents:=l}∧Step p R {R with lv:=v'} w (w1.setCell ⟨p,1,none⟩ v')∧w1.cell? ⟨p,1,none⟩=some R.lv∧w1.frozen? ⟨p,1,none⟩=false:=by
 obtain ⟨n1,n2,n3,n4⟩:=h.p_ne
 have hp:=h.blk.lt
 have hvp:sblk v'≠some p:=by
  rcases hn with h1 | ⟨q,h1,h2⟩
  ·rw [h1];exact n2
  ·rw [h1];intro e;have:=Option.some.inj e;omega
 have hM:Mod (fun b=>b=p∨sblk R.lv=some b) w (w1.setCell ⟨p,1,none⟩ v'):=(hm.mono fun b _ hx=> .inr hx).set (p:=⟨p,1,none⟩) (fun _=> .inl rfl) _
 refine ⟨⟨by rw [←arCells_list R S v' l];exact Blk.set (b:=p) (t:=AR) ((hm.block p hp n2).trans h.blk) _ _,hs.far (p:=⟨p,1,none⟩) hvp _,h.idx.of_block (hM.block _ h.idx.lt fun hx=>?_),h.free.mod hM fun b hb hx=>?_,fun t ht=>(h.added t ht).mod hM fun b hb hx=>?_,h.sep1,h.sep2,hk⟩,⟨hM.mono fun b _ hx=>?_,fun b hb=>?_⟩,?_,?_⟩
 ·rcases hx with hx | hx
  ·exact n1 hx.symm
  ·exact h.mb_ne.1 hx
 ·rcases hx with rfl | hx
  ·exact n3 hb
  ·exact (h.list_ne hx).2.2.1 hb
 ·rcases hx with rfl | hx
  ·exact n4 t ht hb
  ·exact (h.list_ne hx).2.2.2 t ht hb
 ·rcases hx with rfl | hx
  ·exact .inl rfl
  ·exact .inr (.inr (.inl hx))
 ·rcases hb with h1 | h1 | h1 | h1
  ·exact .inl (.inl h1)
  ·exact .inl (.inr (.inl h1))
  ·change sblk v'=some b at h1
   rcases hn with h2 | ⟨q,h2,h3⟩
   ·exact .inl (.inr (.inr (.inl (by rw [←h2];exact h1))))
   ·rw [h2] at h1;have:=Option.some.inj h1;exact .inr (by omega)
  ·exact .inl (.inr (.inr (.inr h1)))
 ·exact (hm.cell (a:=⟨p,1,none⟩) hp n2).trans h.cList
 ·exact (hm.frozen (a:=⟨p,1,none⟩) hp n2).trans (h.f 1)
end
theorem ArM.alloc {w:World} {p:Nat} {R:ArR} {S:ArS} (h:ArM w p R S) (ob:Obj):ArM (w.alloc ob) p R S:=h.keep ((Mod.refl (fun _=>False) w).alloc ob) fun _ _ h=>h
theorem Step.alloc {w w':World} {p:Nat} {R R':ArR} (h:Step p R R' w w') (ob:Obj):Step p R R' w (w'.alloc ob):=⟨h.mod.alloc ob,h.own⟩
theorem Tryz.infoEnt:(Tryz.prog.info? EN).map (fun i=>(i.zero,i.size,i.bytes))=some (some (.agg #[.int .i64 0,.int .i64 0,.int .i64 0,.int .i64 0,.int .i64 0,.int .i64 0,.int .i64 0,.int .u64 0]),8,64):=by kernel_rfl
theorem take_end {w1 w7:World} {p:Nat} {R:ArR} {S:ArS} {v7 v:Value} {ob:Obj} {n:Nat} (h:ArM w1 p R S) (hv:R.lv=v) (hm:Mod (fun b=>sblk v=some b) (w1.alloc ob) w7) (hd:sblk v7=sblk v∨sblk v7=some (w1.alloc ob).heap.size∧(w1.alloc ob).heap.size<w7.heap.size) (hs:Sl w7 EN 8 v7 n (entsV S.ents++entV zeroE)) (hn:n=S.ents.length+1):
 w7.cell? ⟨p,1,none⟩=some v∧w7.frozen? ⟨p,1,none⟩=false∧ArM (w7.setCell ⟨p,1,none⟩ v7) p {R with lv:=v7} {S with ents:=S.ents++ [zeroE]}∧Step p R {R with lv:=v7} w1 (w7.setCell ⟨p,1,none⟩ v7):=by
 subst hv;subst hn
 have e:entsV (S.ents++ [zeroE])=entsV S.ents++entV zeroE:=by unfold entsV;rw [List.flatMap_append];simp
 obtain ⟨h1,h2,h3,h4⟩:=(h.alloc ob).relist (l:=S.ents++ [zeroE]) hm (by rw [e,List.length_append];exact hs) (by
  rcases hd with h | ⟨h,_⟩
  ·exact .inl h
  ·exact .inr ⟨_,h,Nat.le_refl _⟩) (fun e he=>by
  rcases List.mem_append.1 he with h1 | h1
  ·exact h.masks e h1
  ·rw [List.mem_singleton.1 h1];exact zero_ok.2.2.2)
 exact ⟨h3,h4,h1,((Step.refl p R w1).alloc ob).trans h2⟩
def TakePost (w:World) (p:Nat) (R:ArR) (S:ArS) (e:Ending) (w':World):Prop:=
 ∃(i:Nat) (S1:ArS) (R1:ArR),e= .returned (.int .i64 i)∧TakeR S i S1∧ArM w' p R1 S1∧Step p R R1 w w'
set_option maxRecDepth 100000 in
set_option maxHeartbeats 3200000 in
theorem take_any (w:World) (p:Nat) (R:ArR) (S:ArS) (h:ArM w p R S) (hI:Inv S) (hl:S.live=S.size):
 Calls Tryz.prog 149 #[.pointer (some ⟨p,0,none⟩)] w (TakePost w p R S):=by
 have c0:=h.cLive
 have f0:=h.f 196
 have c3:=h.cFree
 have hsz:=hI.lenN
 have hpt:=hI.part
 have hwl:IntKind.i64.wrap (S.live+1)=S.live+1:=by rw [IntKind.wrap_i64];omega
 have HSZ:=Lib.hid hsz
 have HPT:=Lib.hid hpt
 have H1:=Lib.hid (h.put (arCells_live R S (S.live+1)) rfl rfl rfl rfl rfl)
 have HST:=Lib.hid (Step.set h (q:=⟨p,196,none⟩) (.inl rfl) (.int .i64 (S.live+1)))
 have HI:=Lib.hid hI
 obtain ⟨A,cap,hfv,hc1,hc2⟩:=h.free.form
 rw [hfv] at c3
 have HFV:=Lib.hid hfv
 have c1:=h.cList
 have f1:=h.f 1
 obtain ⟨b,off,lcap,hlv,hk1,hk2,_⟩:=h.ents (by omega)
 rw [hlv] at c1
 have HLV:=Lib.hid hlv
 clear h hI hsz hpt hfv hl hlv
 generalize hn:S.free.length=n at*
 have HN:=Lib.hid hn
 clear hn
 go_enter Tryz.func149,Tryz.ntmps149
 rcases Nat.eq_zero_or_pos n with rfl | hn
 ·have HSL:Hid (Sl (w.setCell ⟨p,196,none⟩ (.int .i64 (S.live+1))) EN 8 (.slice (some ⟨b,off,none⟩) S.ents.length lcap) S.ents.length (entsV S.ents)):=by
   show Sl _ _ _ _ _ _
   rw [←HLV.out];exact H1.out.list
  have HX:=Lib.hid (Rd.fresh (w.setCell ⟨p,196,none⟩ (.int .i64 (S.live+1))) EN #[.int .i64 0,.int .i64 0,.int .i64 0,.int .i64 0,.int .i64 0,.int .i64 0,.int .i64 0,.int .u64 0] 8 1 rfl (by unfold maxLen;omega))
  rw [World.size_setCell] at HX
  have hwn:wrap64 (S.ents.length:Int)=S.ents.length:=by have:=HSZ.out;unfold wrap64;omega
  go_wp2_with (at_builtin;go_loud (refine wpList_append_sl _ rfl (.tmp 26) (.tmp 28) 92 rfl EN (.agg #[.int .i64 0,.int .i64 0,.int .i64 0,.int .i64 0,.int .i64 0,.int .i64 0,.int .i64 0,.int .u64 0]) 8 64 Tryz.underlying92 Tryz.infoEnt rfl (by decide) rfl (by exact HSL.out.alloc _) rfl (by exact HX.out) (by intro u hu;simp at hu;rcases hu with rfl | rfl<;>rfl) (by have:=HSZ.out;omega) (by have:=HSZ.out;unfold maxLen;omega) ?_);intro v' w7 hs7 hm7 hd7;obtain ⟨d0,d1,d2,d3⟩:=take_end H1.out HLV.out hm7 hd7 hs7 rfl;obtain ⟨A',cap',rfl,g1,g2⟩:=hs7.form)
  go_ret
  exact ⟨S.ents.length,_,_,rfl,.inr ⟨List.eq_nil_of_length_eq_zero HN.out,rfl,rfl⟩,d2,HST.out.trans d3⟩
 ·have hn0:0<(n:Int):=by omega
  go_wp2_with fail
  obtain ⟨m,rfl⟩:∃m,n=m+1:=⟨n-1,by omega⟩
  have HFR:=Lib.hid (H1.out.fr)
  have ha:∀(x:Int) (w:World),(Instr.typeAssert (.iface 3 (.int .i64 x)) 20 3 false).run Tryz.prog w= .ok (.int .i64 x) w:=fun x w=>by kernel_rfl
  (with_reducible refine (hpop_any _ p 3 AR m _ _ _ (by have:=HFR.out;change FrM _ _ _ _ _ _ S.free.length S.free at this;rw [HN.out] at this;exact this) (by have:=HSZ.out;have:=HPT.out;omega)).mono ?_)
  rintro e w2 ⟨v',l',x,rfl,hpe,hf2,hn2,hm2⟩
  obtain ⟨k1,k2⟩:=H1.out.of_fr hf2 (.inl hn2) hm2
  have HK1:=Lib.hid k1
  have HK2:=Lib.hid (HST.out.trans k2)
  have HPE:=Lib.hid hpe
  clear hpe hf2 hn2 hm2 k1 k2
  unfold iface
  go_wp2_with fail
  go_ret
  obtain ⟨i,hi,_⟩:=HI.out.free x (HPE.out.subset (List.mem_cons_self ..))
  subst hi
  exact ⟨i,_,_,rfl,.inl ⟨l',HPE.out,rfl⟩,HK1.out,HK2.out⟩
end Go.Proofs.YthohnjgnpapnoaaGreatDoor
namespace Go.Proofs.YthohnjgnpapnoaaGreatDoor
open Go.RowKit
theorem entsV_put:∀(l:List EntD) (i:Nat) (e e':EntD),l[i]? =some e→((((((((entsV l).set (i*8) (.int .i64 e'.key.kind)).set (i*8+1) (.int .i64 e'.key.a0)).set (i*8+2) (.int .i64 e'.key.a1)).set (i*8+3) (.int .i64 e'.key.a2)).set (i*8+4) (.int .i64 e'.key.a3)).set (i*8+5) (.int .i64 e'.level)).set (i*8+6) (.int .i64 e'.value)).set (i*8+7) (.int .u64 (e'.mask:Int))=entsV (l.set i e')
 | [],i,e,e',h=>by simp at h
 | a::l,0,e,e',h=>by
   simp [entsV,entV]
 | a::l,i+1,e,e',h=>by
   have ih:=entsV_put l i e e' (by simpa using h)
   have e1:entsV (a::l)=entV a++entsV l:=rfl
   have e2:entsV ((a::l).set (i+1) e')=entV a++entsV (l.set i e'):=rfl
   have hx:∀(xs:List Value) (k:Nat) (u:Value),(entV a++xs).set ((i+1)*8+k) u=entV a++xs.set (i*8+k) u:=by
    intro xs k u
    rw [List.set_append_right _ _ (by simp [entV];omega)]
    congr 2
    simp [entV];omega
   have hx0:∀(xs:List Value) (u:Value),(entV a++xs).set ((i+1)*8) u=entV a++xs.set (i*8) u:=fun xs u=>hx xs 0 u
   rw [e1,e2,←ih]
   simp only [hx,hx0]
def wrote8 (w:World) (b o:Nat) (e:EntD):World:=
 (((((((w.setCell ⟨b,o,none⟩ (.int .i64 e.key.kind)).setCell ⟨b,o+1,none⟩ (.int .i64 e.key.a0)).setCell ⟨b,o+2,none⟩ (.int .i64 e.key.a1)).setCell ⟨b,o+3,none⟩ (.int .i64 e.key.a2)).setCell ⟨b,o+4,none⟩ (.int .i64 e.key.a3)).setCell ⟨b,o+5,none⟩ (.int .i64 e.level)).setCell ⟨b,o+6,none⟩ (.int .i64 e.value)).setCell ⟨b,o+7,none⟩ (.int .u64 (e.mask:Int))
theorem mod_wrote8 (w:World) (b o:Nat) (e:EntD):Mod (fun q=>q=b) w (wrote8 w b o e):=by
 unfold wrote8
 exact ((((((((Mod.refl (fun q=>q=b) w).set (p:=⟨b,o,none⟩) (fun _=>rfl) _).set (p:=⟨b,o+1,none⟩) (fun _=>rfl) _).set (p:=⟨b,o+2,none⟩) (fun _=>rfl) _).set (p:=⟨b,o+3,none⟩) (fun _=>rfl) _).set (p:=⟨b,o+4,none⟩) (fun _=>rfl) _).set (p:=⟨b,o+5,none⟩) (fun _=>rfl) _).set (p:=⟨b,o+6,none⟩) (fun _=>rfl) _).set (p:=⟨b,o+7,none⟩) (fun _=>rfl) _
section
variable {w w' : World} {p : Nat} {R : ArR} {S : ArS}
theorem ArM.setEnt (h:ArM w p R S) {b off cap n:Nat} (hlv:R.lv= .slice (some ⟨b,off,none⟩) n cap) {i:Nat} {e e':EntD} (he:S.ents[i]? =some e) (hm:e'.mask<18446744073709551616):
 ArM (wrote8 w b (off+i*8) e') p R {S with ents:=S.ents.set i e'}∧Step p R R w (wrote8 w b (off+i*8) e'):=by
 have hi:=(List.getElem?_eq_some_iff.1 he).1
 obtain ⟨n1,n2,n3,n4⟩:=h.list_ne (b:=b) (by rw [hlv];rfl)
 have hM:=mod_wrote8 w b (off+i*8) e'
 refine ⟨⟨?_,?_,?_,?_,?_,h.sep1,h.sep2,?_⟩,hM.mono fun q _ hq=>?_,fun q hq=> .inl hq⟩
 ·rw [arCells_ents];exact h.blk.mod hM (Ne.symm n1)
 ·have hl:=h.list
  rw [hlv] at hl ⊢
  have hn:n=S.ents.length:=by obtain ⟨_,A,c,e1,_⟩:=hl;injection e1
  subst hn
  have k:=(((((((hl.putAt (i:=i*8) (by omega) (.int .i64 e'.key.kind)).putAt (i:=i*8+1) (by omega) (.int .i64 e'.key.a0)).putAt (i:=i*8+2) (by omega) (.int .i64 e'.key.a1)).putAt (i:=i*8+3) (by omega) (.int .i64 e'.key.a2)).putAt (i:=i*8+4) (by omega) (.int .i64 e'.key.a3)).putAt (i:=i*8+5) (by omega) (.int .i64 e'.level)).putAt (i:=i*8+6) (by omega) (.int .i64 e'.value)).putAt (i:=i*8+7) (by omega) (.int .u64 (e'.mask:Int))
  rw [entsV_put _ _ _ _ he] at k
  show Sl _ EN 8 _ (S.ents.set i _).length (entsV (S.ents.set i _))
  rw [List.length_set];exact k
 ·exact h.idx.of_block (hM.block _ h.idx.lt (Ne.symm n2))
 ·exact h.free.mod hM fun q hq e=>n3 (e▸hq)
 ·exact fun t ht=>(h.added t ht).mod hM fun q hq e=>n4 t ht (e▸hq)
 ·intro e1 he1
  rcases List.mem_or_eq_of_mem_set he1 with h1 | h1
  ·exact h.masks _ h1
  ·rw [h1];exact hm
 ·subst hq;exact Own.list hlv
theorem ArM.reidx (h:ArM w p R S) {c:Nat} {m:KeyA→Option Int} (hk:MapK w' R.mb c m) (hm:Mod (fun q=>q=R.mb) w w'):ArM w' p R {S with idx:=m,size:=c}∧Step p R R w w':=by
 obtain ⟨n1,n2,n3,n4⟩:=h.p_ne
 obtain ⟨m1,m2,m3⟩:=h.mb_ne
 refine ⟨⟨h.blk.mod hm n1,h.list.mod hm fun q hq e=>m1 (e▸hq),hk,h.free.mod hm fun q hq e=>m2 (e▸hq),fun t ht=>(h.added t ht).mod hm fun q hq e=>m3 t ht (e▸hq),h.sep1,h.sep2,h.masks⟩,hm.mono fun q _ hq=> .inr (.inl hq),fun q hq=> .inl hq⟩
theorem ArM.cells8 (h:ArM w p R S) {i:Nat} {e:EntD} (he:S.ents[i]? =some e):∃b off cap,R.lv= .slice (some ⟨b,off,none⟩) S.ents.length cap∧
 (w.cell? ⟨b,off+i*8,none⟩=some (.int .i64 e.key.kind)∧w.cell? ⟨b,off+i*8+1,none⟩=some (.int .i64 e.key.a0)∧w.cell? ⟨b,off+i*8+2,none⟩=some (.int .i64 e.key.a1)∧w.cell? ⟨b,off+i*8+3,none⟩=some (.int .i64 e.key.a2)∧
   w.cell? ⟨b,off+i*8+4,none⟩=some (.int .i64 e.key.a3)∧w.cell? ⟨b,off+i*8+5,none⟩=some (.int .i64 e.level)∧w.cell? ⟨b,off+i*8+6,none⟩=some (.int .i64 e.value)∧w.cell? ⟨b,off+i*8+7,none⟩=some (.int .u64 (e.mask:Int)))∧∀j,w.frozen? ⟨b,j,none⟩=false:=by
 obtain ⟨b,off,cap,hlv,hc1,hc2,hc,hfr⟩:=h.ents (by have:=(List.getElem?_eq_some_iff.1 he).1;omega)
 exact ⟨b,off,cap,hlv,⟨hc i e 0 _ he rfl,hc i e 1 _ he rfl,hc i e 2 _ he rfl,hc i e 3 _ he rfl,hc i e 4 _ he rfl,hc i e 5 _ he rfl,hc i e 6 _ he rfl,hc i e 7 _ he rfl⟩,hfr⟩
theorem ArM.cells8' (h:ArM w p R S) {b off n cap:Nat} (hlv:R.lv= .slice (some ⟨b,off,none⟩) n cap) {i:Nat} {e:EntD} (he:S.ents[i]? =some e):
 (w.cell? ⟨b,off+i*8,none⟩=some (.int .i64 e.key.kind)∧w.cell? ⟨b,off+i*8+1,none⟩=some (.int .i64 e.key.a0)∧w.cell? ⟨b,off+i*8+2,none⟩=some (.int .i64 e.key.a1)∧w.cell? ⟨b,off+i*8+3,none⟩=some (.int .i64 e.key.a2)∧
   w.cell? ⟨b,off+i*8+4,none⟩=some (.int .i64 e.key.a3)∧w.cell? ⟨b,off+i*8+5,none⟩=some (.int .i64 e.level)∧w.cell? ⟨b,off+i*8+6,none⟩=some (.int .i64 e.value)∧w.cell? ⟨b,off+i*8+7,none⟩=some (.int .u64 (e.mask:Int)))∧
 (w.frozen? ⟨b,off+i*8,none⟩=false∧w.frozen? ⟨b,off+i*8+1,none⟩=false∧w.frozen? ⟨b,off+i*8+2,none⟩=false∧w.frozen? ⟨b,off+i*8+3,none⟩=false∧w.frozen? ⟨b,off+i*8+4,none⟩=false∧w.frozen? ⟨b,off+i*8+5,none⟩=false∧w.frozen? ⟨b,off+i*8+6,none⟩=false∧w.frozen? ⟨b,off+i*8+7,none⟩=false):=by
 obtain ⟨b',off',cap',hlv',h8,hf⟩:=h.cells8 he
 rw [hlv] at hlv'
 injection hlv' with h1 h2 h3
 injection h1 with h1
 injection h1 with h1 h4 _
 subst h1;subst h4
 exact ⟨h8,hf _,hf _,hf _,hf _,hf _,hf _,hf _,hf _⟩
end
end Go.Proofs.YthohnjgnpapnoaaGreatDoor
namespace Go.Proofs.YthohnjgnpapnoaaGreatDoor
open Go.RowKit
def SweepPost (w:World) (p:Nat) (R:ArR) (S:ArS) (e:Ending) (w':World):Prop:=
 ∃(n:Nat) (S':ArS) (R':ArR),e= .returned (.int .i64 n)∧SweepR S S' n∧ArM w' p R' S'∧Step p R R' w w'
set_option maxRecDepth 100000 in
set_option maxHeartbeats 3200000 in
theorem sweep_any (w:World) (p:Nat) (R:ArR) (S:ArS) (h:ArM w p R S) (hI:Inv S) (hl:S.live=S.size):
 Calls Tryz.prog 148 #[.pointer (some ⟨p,0,none⟩)] w (SweepPost w p R S):=by
 have H:=Lib.hid h
 have HI:=Lib.hid hI
 have HL:=Lib.hid hl
 clear h hI hl
 go_enter Tryz.func148,Tryz.ntmps148
 go_wp2_with fail
 go_loopw [3,4] (fun v3 v4 wx=>∃(i n:Nat) (Si:ArS) (Ri:ArR),v3= .int .i64 n∧v4= .int .i64 i∧i≤S.ents.length∧SwN S i Si n∧ArM wx p Ri Si∧Step p R Ri w wx) (fun _ v4 _=>S.ents.length-(intOf v4).toNat)
 case atStart=>exact ⟨2,0,S,R,rfl,rfl,HI.out.len,.start,H.out,Step.refl _ _ _⟩
 case round=>
  obtain ⟨i,n,Si,Ri,rfl,rfl,hi,hsw,hA,hst⟩:=hrel
  have hf:=hsw.facts HI.out
  have hlen:=hf.len
  have HF:=Lib.hid hf
  have HSW:=Lib.hid hsw
  have HA:=Lib.hid hA
  have HST:=Lib.hid hst
  obtain ⟨b,off,cap,hlv,hc1,hc2,hc,hfr⟩:=hA.ents (by have:=hf.inv.len;omega)
  have c0:=hA.cList
  rw [hlv,hlen] at c0
  have HLV:=Lib.hid hlv
  have HLEN:=Lib.hid hlen
  by_cases hin:i<S.ents.length
  ·obtain ⟨e,he⟩:∃e,Si.ents[i]? =some e:=⟨Si.ents[i]'(by rw [hlen];exact hin),List.getElem?_eq_getElem _⟩
   have hkk:=hf.inv.keys e (List.mem_of_getElem? he)
   have e0:wr.cell? ⟨b,off+i*8,none⟩=some (.int .i64 e.key.kind):=hc i e 0 _ he rfl
   have e1:wr.cell? ⟨b,off+i*8+1,none⟩=some (.int .i64 e.key.a0):=hc i e 1 _ he rfl
   have e2:wr.cell? ⟨b,off+i*8+2,none⟩=some (.int .i64 e.key.a1):=hc i e 2 _ he rfl
   have e3:wr.cell? ⟨b,off+i*8+3,none⟩=some (.int .i64 e.key.a2):=hc i e 3 _ he rfl
   have e4:wr.cell? ⟨b,off+i*8+4,none⟩=some (.int .i64 e.key.a3):=hc i e 4 _ he rfl
   have e5:wr.cell? ⟨b,off+i*8+5,none⟩=some (.int .i64 e.level):=hc i e 5 _ he rfl
   have e6:wr.cell? ⟨b,off+i*8+6,none⟩=some (.int .i64 e.value):=hc i e 6 _ he rfl
   have e7:wr.cell? ⟨b,off+i*8+7,none⟩=some (.int .u64 (e.mask:Int)):=hc i e 7 _ he rfl
   have c2:=hA.cIdx
   have hwi:=wrap_nat' i (by unfold maxLen at*;omega)
   have hlt:(i:Int)<(S.ents.length:Int):=by omega
   have HE:=Lib.hid he
   have HIN:=Lib.hid hin
   have HKK:=Lib.hid hkk
   clear hc hfr hA hf hsw hst hlv hlen he hin hkk hi hc1
   go_wp2_with fail
   generalize hw2:World.alloc _ _=w2
   have HA2:Hid (ArM w2 p Ri Si):=by subst hw2;exact HA.out.alloc _
   have HS2:Hid (Step p R Ri w w2):=by subst hw2;exact HST.out.alloc _
   have HB2:Hid (Blk w2 wr.heap.size EN #[.int .i64 e.key.kind,.int .i64 e.key.a0,.int .i64 e.key.a1,.int .i64 e.key.a2,.int .i64 e.key.a3,.int .i64 e.level,.int .i64 e.value,.int .u64 (e.mask:Int)]):=by subst hw2;exact Blk.new wr _ _
   have b0:=HB2.out.cellS (i:=0) rfl
   have b1:=HB2.out.cellS (i:=1) rfl
   have b2:=HB2.out.cellS (i:=2) rfl
   have b3:=HB2.out.cellS (i:=3) rfl
   have b4:=HB2.out.cellS (i:=4) rfl
   have b7:=HB2.out.cellS (i:=7) rfl
   have c2:=HA2.out.cIdx
   obtain ⟨v,hlk,hlv2⟩:=HA2.out.drew.idx.look HKK.out.1
   have HLK:=Lib.hid hlv2
   unfold KeyA.val at hlk
   clear hw2 hlv2 e0 e1 e2 e3 e4 e5 e6 e7 c0
   go_region
   clear hlk
   generalize hw3:World.drew _=w3
   have HA3:Hid (ArM w3 p Ri Si):=by subst hw3;exact HA2.out.drew
   have HS3:Hid (Step p R Ri w w3):=by subst hw3;exact HS2.out.drew
   have HB3:Hid (Blk w3 wr.heap.size EN #[.int .i64 e.key.kind,.int .i64 e.key.a0,.int .i64 e.key.a1,.int .i64 e.key.a2,.int .i64 e.key.a3,.int .i64 e.level,.int .i64 e.value,.int .u64 (e.mask:Int)]):=by subst hw3;exact HB2.out
   clear b0 b1 b2 b3 b4 b7 c2 hw3
   have b0:=HB3.out.cellS (i:=0) rfl
   have b1:=HB3.out.cellS (i:=1) rfl
   have b2:=HB3.out.cellS (i:=2) rfl
   have b3:=HB3.out.cellS (i:=3) rfl
   have b4:=HB3.out.cellS (i:=4) rfl
   have b7:=HB3.out.cellS (i:=7) rfl
   have c2:=HA3.out.cIdx
   generalize hix:Si.idx e.key=o at*
   by_cases hm:e.mask=0
   ·rw [hm] at b7
    cases o with
    | none=>
      go_wp2_with fail
      go_roundw
      case rel=>exact ⟨i+1,n,Si,Ri,rfl,by go_num,HIN.out,.skip HSW.out HE.out (fun h=>by rw [hix] at h;cases h.2),HA3.out,HS3.out⟩
      case measure=>simp [intOf];have:=HIN.out;omega
    | some x=>
      have hvx:v=x:=HLK.out x rfl
      subst hvx
      by_cases hvi:v=(i:Int)
      ·subst hvi
       go_wp2_with fail
       obtain ⟨w4,hdel,hk4,hm4⟩:=HA3.out.drew.idx.drop HKK.out.1 hix 0
       obtain ⟨k1,k2⟩:=HA3.out.drew.reidx hk4 hm4
       have HA4:=Lib.hid k1
       have HS4:=Lib.hid (HS3.out.drew.trans k2)
       unfold KeyA.val at hdel
       clear hk4 hm4 k1 k2
       go_region
       clear hdel
       obtain ⟨⟨d0,d1,d2,d3,d4,d5,d6,d7⟩,f0,f1,f2,f3,f4,f5,f6,f7⟩:=HA4.out.cells8' HLV.out HE.out
       have g0:=HA4.out.cList
       rw [HLV.out,HLEN.out] at g0
       obtain ⟨k1,k2⟩:=HA4.out.setEnt HLV.out HE.out zero_ok.2.2.2
       have HA5:=Lib.hid k1
       have HS5:=Lib.hid (HS4.out.trans k2)
       clear k1 k2 b0 b1 b2 b3 b4 b7 c2
       go_wp2_with fail
       change Calls _ _ #[hV p 3,iface i] (wrote8 w4 b (off+i*8) zeroE) _
       generalize wrote8 w4 b (off+i*8) zeroE=w5 at HA5 HS5 ⊢
       clear d0 d1 d2 d3 d4 d5 d6 d7 f0 f1 f2 f3 f4 f5 f6 f7 g0
       have hfl:Si.free.length<1000000:=by have:=HF.out.inv.part;have:=HF.out.inv.lenN;omega
       (with_reducible refine (hpush_any w5 p 3 AR Si.free.length _ _ _ HA5.out.fr i hfl).mono ?_)
       rintro e9 w6 ⟨v',l',rfl,hpe,hf6,hn6,hm6⟩
       obtain ⟨k1,k2⟩:=HA5.out.of_fr hf6 hn6 hm6
       have HA6:=Lib.hid k1
       have HS6:=Lib.hid (HS5.out.trans k2)
       have HPE:=Lib.hid hpe
       have hnl:IntKind.i64.wrap ((n:Int)+1)=(n:Int)+1:=wrap_nat' n (by have:=HF.out.size;have:=HI.out.part;have:=HI.out.lenN;unfold maxLen;omega)
       clear hpe hf6 hn6 hm6 k1 k2 hfl
       go_wp2_with fail
       go_roundw
       case rel=>exact ⟨i+1,n+1,killS Si i e.key l',_,by go_num,by go_num,HIN.out,.kill HSW.out HE.out hm hix HPE.out,HA6.out,HS6.out⟩
       case measure=>simp [intOf];have:=HIN.out;omega
      ·have hvb:(v==(i:Int))=false:=by rw [beq_eq_false_iff_ne];exact hvi
       go_wp2_with fail
       go_roundw
       case rel=>exact ⟨i+1,n,Si,Ri,rfl,by go_num,HIN.out,.skip HSW.out HE.out (fun h=>by rw [hix] at h;exact hvi (Option.some.inj h.2)),HA3.out,HS3.out⟩
       case measure=>simp [intOf];have:=HIN.out;omega
   ·have hm1:((e.mask:Int)==0)=false:=by rw [beq_eq_false_iff_ne];omega
    have hm2:¬((e.mask:Int)=0):=by omega
    have HM:=Lib.hid hm
    clear hm
    go_wp2_with fail
    go_roundw
    case rel=>exact ⟨i+1,n,Si,Ri,rfl,by go_num,HIN.out,.skip HSW.out HE.out (fun h=>HM.out h.1),HA3.out,HS3.out⟩
    case measure=>simp [intOf];have:=HIN.out;omega
  ·have hge:(S.ents.length:Int)≤(i:Int):=by omega
   have hin':i=S.ents.length:=by omega
   subst hin'
   have c1:=HA.out.cLive
   have f1:=HA.out.f 196
   rw [HF.out.live] at c1
   have hnb:n≤S.size:=by have:=HF.out.size;omega
   have hsz:S.size≤200002:=by have:=HI.out.part;have:=HI.out.lenN;omega
   have hl:=HL.out
   have hwl:IntKind.i64.wrap (S.live-n)=S.live-n:=by rw [IntKind.wrap_i64];omega
   have HQ:=Lib.hid (HA.out.put (arCells_live Ri Si (S.live-n)) rfl rfl rfl rfl rfl)
   have HR:=Lib.hid (HST.out.trans (Step.set HA.out (q:=⟨p,196,none⟩) (.inl rfl) (.int .i64 (S.live-n))))
   clear hl hnb hsz hA hf hst hsw hlen hc hfr hlv
   go_wp2_with fail
   go_ret
   exact ⟨n,_,_,rfl,⟨Si,HSW.out,rfl⟩,HQ.out,HR.out⟩
end Go.Proofs.YthohnjgnpapnoaaGreatDoor
namespace Go.Proofs.YthohnjgnpapnoaaGreatDoor
open Go.RowKit
section
variable {w w' : World} {p : Nat} {R : ArR} {S : ArS}
theorem ArM.readd (h:ArM w p R S) {t:Nat} (ht:t<64) {w1:World} {v':Value} {l:List Int} (hm:Mod (fun b=>sblk (R.av t)=some b) w w1) (hs:Sl w1 IT 1 v' l.length (intsV l)) (hn:sblk v'=sblk (R.av t)∨∃q,sblk v'=some q∧w.heap.size≤q):
 ArM (w1.setCell ⟨p,132+t,none⟩ v') p {R with av:=upd R.av t v'} {S with added:=upd S.added t l}∧Step p R {R with av:=upd R.av t v'} w (w1.setCell ⟨p,132+t,none⟩ v')∧w1.cell? ⟨p,132+t,none⟩=some (R.av t)∧w1.frozen? ⟨p,132+t,none⟩=false:=by
 obtain ⟨n1,n2,n3,n4⟩:=h.p_ne
 have hp:=h.blk.lt
 have hvp:sblk v'≠some p:=by
  rcases hn with h1 | ⟨q,h1,h2⟩
  ·rw [h1];exact n4 t ht
  ·rw [h1];intro e;have:=Option.some.inj e;omega
 have hM:Mod (fun b=>b=p∨sblk (R.av t)=some b) w (w1.setCell ⟨p,132+t,none⟩ v'):=(hm.mono fun b _ hx=> .inr hx).set (p:=⟨p,132+t,none⟩) (fun _=> .inl rfl) _
 refine ⟨⟨by rw [←arCells_added R S ht v' l];exact Blk.set (b:=p) (t:=AR) ((hm.block p hp (n4 t ht)).trans h.blk) _ _,h.list.mod hM fun b hb hx=>?_,h.idx.of_block (hM.block _ h.idx.lt fun hx=>?_),h.free.mod hM fun b hb hx=>?_,fun k hk=>?_,fun k hk b hb=>?_,fun k k' hk hk' hne b hb=>?_,h.masks⟩,⟨hM.mono fun b _ hx=>?_,fun b hb=>?_⟩,?_,?_⟩
 ·rcases hx with rfl | hx
  ·exact n2 hb
  ·exact (h.list_ne hb).2.2.2 t ht hx
 ·rcases hx with hx | hx
  ·exact n1 hx.symm
  ·exact h.mb_ne.2.2 t ht hx
 ·rcases hx with rfl | hx
  ·exact n3 hb
  ·exact h.sep1 t ht b hb hx
 ·show Sl _ IT 1 (upd R.av t v' k) (upd S.added t l k).length (intsV (upd S.added t l k))
  by_cases e:k=t
  ·subst e;rw [upd_same,upd_same];exact hs.far (p:=⟨p,132+k,none⟩) hvp _
  ·rw [upd_ne _ _ e,upd_ne _ _ e]
   refine (h.added k hk).mod hM fun b hb hx=>?_
   rcases hx with rfl | hx
   ·exact n4 k hk hb
   ·exact h.sep2 k t hk ht e b hb hx
 ·show sblk (upd R.av t v' k)≠some b
  by_cases e:k=t
  ·subst e;rw [upd_same];intro e2
   rcases hn with h1 | ⟨q,h1,h2⟩
   ·rw [h1] at e2;exact h.sep1 k hk b hb e2
   ·rw [h1] at e2;have:=Option.some.inj e2;have:=(h.free.lt hb).1;omega
  ·rw [upd_ne _ _ e];exact h.sep1 k hk b hb
 ·change sblk (upd R.av t v' k)=some b at hb
  show sblk (upd R.av t v' k')≠some b
  by_cases e:k=t
  ·subst e
   rw [upd_same] at hb
   rw [upd_ne _ _ (Ne.symm hne)]
   intro e2
   rcases hn with h1 | ⟨q,h1,h2⟩
   ·rw [h1] at hb;exact h.sep2 k k' hk hk' hne b hb e2
   ·rw [h1] at hb;have:=Option.some.inj hb;have:=((h.added k' hk').lt e2).1;omega
  ·rw [upd_ne _ _ e] at hb
   by_cases e':k'=t
   ·subst e'
    rw [upd_same];intro e2
    rcases hn with h1 | ⟨q,h1,h2⟩
    ·rw [h1] at e2;exact h.sep2 k k' hk hk' hne b hb e2
    ·rw [h1] at e2;have:=Option.some.inj e2;have:=((h.added k hk).lt hb).1;omega
   ·rw [upd_ne _ _ e'];exact h.sep2 k k' hk hk' hne b hb
 ·rcases hx with rfl | hx
  ·exact .inl rfl
  ·exact .inr (.inr (.inr (.inr ⟨t,ht,hx⟩)))
 ·rcases hb with h1 | h1 | h1 | h1 | ⟨k,hk,h1⟩
  ·exact .inl (.inl h1)
  ·exact .inl (.inr (.inl h1))
  ·exact .inl (.inr (.inr (.inl h1)))
  ·exact .inl (.inr (.inr (.inr (.inl h1))))
  ·change sblk (upd R.av t v' k)=some b at h1
   by_cases e:k=t
   ·subst e;rw [upd_same] at h1
    rcases hn with h2 | ⟨q,h2,h3⟩
    ·exact .inl (.inr (.inr (.inr (.inr ⟨k,hk,by rw [←h2];exact h1⟩))))
    ·rw [h2] at h1;have:=Option.some.inj h1;exact .inr (by omega)
   ·rw [upd_ne _ _ e] at h1;exact .inl (.inr (.inr (.inr (.inr ⟨k,hk,h1⟩))))
 ·exact (hm.cell (a:=⟨p,132+t,none⟩) hp (n4 t ht)).trans (h.cAdded ht)
 ·exact (hm.frozen (a:=⟨p,132+t,none⟩) hp (n4 t ht)).trans (h.f (132+t))
theorem add_end {w1 w7:World} {v7 v:Value} {ob:Obj} {n:Nat} {t:Nat} {x:Int} (h:ArM w1 p R S) (ht:t<64) (hv:R.av t=v) (hm:Mod (fun b=>sblk v=some b) (w1.alloc ob) w7) (hd:sblk v7=sblk v∨sblk v7=some (w1.alloc ob).heap.size∧(w1.alloc ob).heap.size<w7.heap.size) (hs:Sl w7 IT 1 v7 n (intsV (S.added t)++ [.int .i64 x])) (hn:n=(S.added t).length+1):
 w7.cell? ⟨p,132+t,none⟩=some v∧w7.frozen? ⟨p,132+t,none⟩=false∧ArM (w7.setCell ⟨p,132+t,none⟩ v7) p {R with av:=upd R.av t v7} {S with added:=upd S.added t (S.added t++ [x])}∧Step p R {R with av:=upd R.av t v7} w1 (w7.setCell ⟨p,132+t,none⟩ v7):=by
 subst hv;subst hn
 obtain ⟨h1,h2,h3,h4⟩:=(h.alloc ob).readd ht (l:=S.added t++ [x]) hm (by rw [List.length_append,intsV,List.map_append];exact hs) (by
  rcases hd with h | ⟨h,_⟩
  ·exact .inl h
  ·exact .inr ⟨_,h,Nat.le_refl _⟩)
 exact ⟨h3,h4,h1,((Step.refl p R w1).alloc ob).trans h2⟩
theorem Mod.undrew {T:Nat→Prop} {w w1:World} (h:Mod T w.drew w1):Mod T w w1:=⟨h.os,h.tape,h.output,h.size,h.block⟩
end
end Go.Proofs.YthohnjgnpapnoaaGreatDoor
