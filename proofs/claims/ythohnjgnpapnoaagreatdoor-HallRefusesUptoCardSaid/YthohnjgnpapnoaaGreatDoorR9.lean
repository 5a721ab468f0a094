/- quad: what a hand's work does to an arena, in plain words. · arena: Kids (at seats that have it). · quad: a hand in memory; join. -/
import Derived.Test.YthohnjgnpapnoaaGreatDoorR8
import Derived.Test.YthohnjgnpapnoaaGreatDoorR7
import Derived.Deep.RegionHeld3
set_option linter.unusedVariables false
set_option linter.unusedSimpArgs false
namespace Go.Proofs.YthohnjgnpapnoaaGreatDoor
open Go.RowKit
structure St (t:Nat) (S:ArS) (A:Nat→Abs) (S':ArS) (A':Nat→Abs):Prop where
 rel:Rel S' A'
 oth:∀u,u≠t→A' u=A u
 mono:∀x∈(A t).have_,x∈(A' t).have_
 add:(∀u,u<64→((S.added u).length:Int)≤S.count u)→∀u,u<64→((S'.added u).length:Int)≤S'.count u
 stay:∀u,u<64→∀x id,hasT (A u).have_ x=true→Den S id x→Den S' id x
 quota:S'.quota=S.quota
 room:S'.room=S.room
 new:∀x,x∈(A' t).added↔x∈(A t).added∨x∈(A' t).have_∧x∉(A t).have_
def Within (S:ArS) (V:List Thing):Prop:=∀(i:Nat) x,DenT S i x→x∈V
def Roomy (S:ArS) (A:Nat→Abs) (t:Nat):Prop:=∃V:List Thing,(∀u,u<64→u≠t→∀x∈(A u).have_,x∈V)∧(V.length:Int)+S.quota t≤S.room
structure Made (t:Nat) (L:List Thing) (S:ArS) (A:Nat→Abs) (bad:Int) (S':ArS) (A':Nat→Abs) (bad':Int):Prop where
 st:St t S A S' A'
 ok:bad'=0→bad=0∧(∀x,x∈(A' t).have_↔x∈(A t).have_∨x∈L)∧∀x,x∈(A' t).added↔x∈(A t).added∨x∈L∧x∉(A t).have_
 code:bad'=bad∨bad=0∧(bad'=9∨bad'=5)
 enough:∀V,Within S V→(∀x∈L,x∈V)→(V.length:Int)<S.room→(V.length:Int)<S.quota t→bad'=bad∧Within S' V∧Stays (fun _=>True) S S'
 least:∀V:List Thing,(∀x∈(A t).have_,x∈V)→(∀x∈L,x∈V)→∀x∈(A' t).have_,x∈V
 quit:bad=0→bad'=9→∀V:List Thing,(∀x∈(A t).have_,x∈V)→(∀x∈L,x∈V)→S.quota t<(V.length:Int)
 le:S.count t≤S.quota t→S'.count t≤S'.quota t
 roomy:Roomy S A t→bad'=bad∨bad'=9
section
variable {S S' S1 S2 : ArS} {A A' A1 A2 : Nat → Abs} {t : Nat} {L L' L1 L2 : List Thing} {bad bad' bad1 bad2 : Int}
theorem Stays.refl (P:EntD→Prop) (S:ArS):Stays P S S:=fun _ e he hx _=>⟨e,he,rfl,rfl,rfl,hx⟩
theorem Stays.trans (h:Stays (fun _=>True) S S1) (k:Stays (fun _=>True) S1 S2):Stays (fun _=>True) S S2:=fun i e he hx _=>by
 obtain ⟨e1,p1,p2,p3,p4,p5⟩:=h i e he hx trivial
 obtain ⟨e2,p6,p7,p8,p9,p10⟩:=k i e1 p1 (by rw [p2];exact p5) trivial
 exact ⟨e2,p6,p7.trans p2,p8.trans p3,p9.trans p4,by rw [←p2];exact p10⟩
theorem St.refl (h:Rel S A) (t:Nat):St t S A S A:=⟨h,fun _ _=>rfl,fun _ h=>h,fun h=>h,fun _ _ _ _ _ h=>h,rfl,rfl,fun _=>⟨.inl,fun q=>q.elim id fun q=>absurd q.1 q.2⟩⟩
theorem St.has (h:St t S A S1 A1) {u:Nat} {x:Thing} (hx:x∈(A u).have_):x∈(A1 u).have_:=by
 by_cases hu:u=t
 ·subst hu;exact h.mono x hx
 ·rw [h.oth u hu];exact hx
theorem St.hasT (h:St t S A S1 A1) {u:Nat} {x:Tree} (hx:hasT (A u).have_ x=true):hasT (A1 u).have_ x=true:=hasT.mono (fun _=>h.has) hx
theorem St.trans (h:St t S A S1 A1) (k:St t S1 A1 S2 A2):St t S A S2 A2:=
 ⟨k.rel,fun u hu=>(k.oth u hu).trans (h.oth u hu),fun x hx=>k.mono x (h.mono x hx),fun ha=>k.add (h.add ha),fun u hu x id hx hd=>k.stay u hu x id (h.hasT hx) (h.stay u hu x id hx hd),k.quota.trans h.quota,k.room.trans h.room,fun x=>by
  rw [k.new,h.new]
  have e1:=h.mono x
  have e2:=k.mono x
  by_cases a:x∈(A t).have_<;>by_cases b:x∈(A1 t).have_<;>by_cases c:x∈(A2 t).have_<;>simp_all⟩
theorem St.roomy (h:St t S A S1 A1) (hr:Roomy S A t):Roomy S1 A1 t:=by
 obtain ⟨V,h1,h2⟩:=hr
 exact ⟨V,fun u hu hne x hx=>h1 u hu hne x (by rw [←h.oth u hne];exact hx),by rw [h.quota,h.room];exact h2⟩
theorem Made.refl (h:Rel S A) (t:Nat) (bad:Int):Made t [] S A bad S A bad:=
 ⟨St.refl h t,fun e=>⟨e,fun x=>by simp,fun x=>by simp⟩,.inl rfl,fun V hV _ _ _=>⟨rfl,hV,Stays.refl _ S⟩,fun V h1 _=>h1,fun e e'=>absurd (e.symm.trans e') (by decide),id,fun _=> .inl rfl⟩
theorem Made.trans (h:Made t L1 S A bad S1 A1 bad1) (k:Made t L2 S1 A1 bad1 S2 A2 bad2):Made t (L1++L2) S A bad S2 A2 bad2:=by
 refine ⟨h.st.trans k.st,fun e=>?_,?_,fun V hV hL hr hq=>?_,fun V h1 h2=>k.least V (h.least V h1 fun x hx=>h2 x (List.mem_append_left _ hx)) fun x hx=>h2 x (List.mem_append_right _ hx),fun e e' V h1 h2=>?_,fun e=>k.le (h.le e),fun hr=>?_⟩
 ·obtain ⟨e1,k1,k2⟩:=k.ok e
  obtain ⟨e0,h1,h2⟩:=h.ok e1
  refine ⟨e0,fun x=>?_,fun x=>?_⟩
  ·rw [k1,h1,List.mem_append,or_assoc]
  ·rw [k2,h2,h1,List.mem_append]
   by_cases a:x∈L1<;>by_cases b:x∈L2<;>by_cases c:x∈(A t).have_<;>simp [a,b,c]
 ·rcases k.code with e | ⟨e,e'⟩
  ·rw [e];exact h.code
  ·rcases h.code with f | ⟨f,f'⟩
   ·exact .inr ⟨f▸e,e'⟩
   ·exact .inr ⟨f,e'⟩
 ·obtain ⟨a1,a2,a3⟩:=h.enough V hV (fun x hx=>hL x (List.mem_append_left _ hx)) hr hq
  obtain ⟨b1,b2,b3⟩:=k.enough V a2 (fun x hx=>hL x (List.mem_append_right _ hx)) (by rw [h.st.room];exact hr) (by rw [h.st.quota];exact hq)
  exact ⟨b1.trans a1,b2,a3.trans b3⟩
 ·by_cases e1:bad1=0
  ·have:=k.quit e1 e' V (h.least V h1 fun x hx=>h2 x (List.mem_append_left _ hx)) fun x hx=>h2 x (List.mem_append_right _ hx)
   rw [h.st.quota] at this;exact this
  ·rcases k.code with c | ⟨c,_⟩
   ·exact h.quit e (c.symm.trans e') V h1 fun x hx=>h2 x (List.mem_append_left _ hx)
   ·exact absurd c e1
 ·rcases k.roomy (h.st.roomy hr) with c | c
  ·rw [c];exact h.roomy hr
  ·exact .inr c
theorem Made.of (h:Made t L S A bad S' A' bad') (h1:∀x∈L,x∈L') (h2:bad'=0→∀x∈L',x∈L∨x∈(A t).have_):Made t L' S A bad S' A' bad':=by
 refine ⟨h.st,fun e=>?_,h.code,fun V hV hL=>h.enough V hV fun x hx=>hL x (h1 x hx),fun V a1 a2=>h.least V a1 fun x hx=>a2 x (h1 x hx),fun e e' V a1 a2=>h.quit e e' V a1 fun x hx=>a2 x (h1 x hx),h.le,h.roomy⟩
 obtain ⟨e0,a1,a2⟩:=h.ok e
 refine ⟨e0,fun x=>?_,fun x=>?_⟩
 ·rw [a1]
  constructor
  ·rintro (a | a)
   ·exact .inl a
   ·exact .inr (h1 x a)
  ·rintro (a | a)
   ·exact .inl a
   ·rcases h2 e x a with b | b
    ·exact .inr b
    ·exact .inl b
 ·rw [a2]
  constructor
  ·rintro (a | ⟨a,b⟩)
   ·exact .inl a
   ·exact .inr ⟨h1 x a,b⟩
  ·rintro (a | ⟨a,b⟩)
   ·exact .inl a
   ·rcases h2 e x a with c | c
    ·exact .inr ⟨c,b⟩
    ·exact absurd c b
theorem Made.shrink (h:Made t L S A 0 S' A' bad') (hr:Rel S A) (ht:t<64) (h1:∀x∈L',x∈L) (h2:∀x∈L,x∈L'∨x∈(A t).have_):Made t L' S A 0 S' A' bad':=by
 refine ⟨h.st,fun e=>?_,h.code,fun V hV hL hrm hq=>?_,fun V a1 a2=>h.least V a1 fun x hx=>(h2 x hx).elim (a2 x) (a1 x),fun e e' V a1 a2=>h.quit e e' V a1 fun x hx=>(h2 x hx).elim (a2 x) (a1 x),h.le,h.roomy⟩
 ·obtain ⟨e0,a1,a2⟩:=h.ok e
  refine ⟨e0,fun x=>?_,fun x=>?_⟩
  ·rw [a1]
   constructor
   ·rintro (a | a)
    ·exact .inl a
    ·rcases h2 x a with b | b
     ·exact .inr b
     ·exact .inl b
   ·rintro (a | a)
    ·exact .inl a
    ·exact .inr (h1 x a)
  ·rw [a2]
   constructor
   ·rintro (a | ⟨a,b⟩)
    ·exact .inl a
    ·rcases h2 x a with c | c
     ·exact .inr ⟨c,b⟩
     ·exact absurd c b
   ·rintro (a | ⟨a,b⟩)
    ·exact .inl a
    ·exact .inr ⟨h1 x a,b⟩
 ·refine h.enough V hV (fun x hx=>?_) hrm hq
  rcases h2 x hx with a | a
  ·exact hL x a
  ·obtain ⟨i,e,_,_,h3⟩:=(hr.own t ht x).1 a
   exact hV i x h3
theorem Made.none (h:Rel S A) (t:Nat) {bad:Int} (hb:bad≠0) (L:List Thing):Made t L S A bad S A bad:=
 ⟨St.refl h t,fun e=>absurd e hb,.inl rfl,fun _V hV _ _ _=>⟨rfl,hV,Stays.refl _ S⟩,fun _ h1 _=>h1,fun e=>absurd e hb,id,fun _=> .inl rfl⟩
theorem Rel.things (h:Rel S A):∃V:List Thing,V.Nodup∧Within S V∧(V.length:Int)=S.live∧∀x∈V,∃i:Nat,DenT S i x:=by
 rw [h.live,h.inv.cnt,List.countP_eq_length_filter]
 generalize hL:(List.range S.ents.length).filter (inIdx S)=I
 have hmem:∀i,i∈I↔∃e,S.ents[i]? =some e∧S.idx e.key=some (i:Int):=by
  intro i
  rw [←hL,List.mem_filter,List.mem_range]
  constructor
  ·rintro ⟨h1,h2⟩
   cases he:S.ents[i]? with
   | none=>unfold inIdx at h2;rw [he] at h2;cases h2
   | some e=>rw [inIdx_eq he] at h2;exact ⟨e,rfl,of_decide_eq_true h2⟩
  ·rintro ⟨e,h1,h2⟩
   exact ⟨(List.getElem?_eq_some_iff.1 h1).1,by rw [inIdx_eq h1];exact decide_eq_true h2⟩
 have hnd:I.Nodup:=by rw [←hL];exact List.Pairwise.filter _ List.nodup_range
 have key:∀i:Nat,∃x:Thing,i∈I→DenT S i x:=by
  intro i
  by_cases hi:i∈I
  ·obtain ⟨e,h1,h2⟩:=(hmem i).1 hi
   obtain ⟨x,hx⟩:=h.good i e h1 h2
   exact ⟨x,fun _=>hx⟩
  ·exact ⟨.note .dead 0 0,fun h=>absurd h hi⟩
 obtain ⟨f,hf⟩:=Classical.axiomOfChoice key
 refine ⟨I.map f,nodup_map (fun a ha b hb e=>?_) hnd,fun i x hd=>?_,by rw [List.length_map],fun x hx=>?_⟩
 ·have h1:=hf a ha
  have h2:=hf b hb
  rw [e] at h1
  exact DenT.inj h1 h2
 ·obtain ⟨e,he,hx⟩:=hd.ent
  have hi:i∈I:=(hmem i).2 ⟨e,he,hx⟩
  rw [DenT.fn h.inv hd (hf i hi)]
  exact List.mem_map.2 ⟨i,hi,rfl⟩
 ·obtain ⟨i,hi,rfl⟩:=List.mem_map.1 hx
  exact ⟨i,hf i hi⟩
theorem Rel.live_le (h:Rel S A) {V:List Thing} (hV:Within S V):S.live≤V.length:=by
 obtain ⟨V0,h1,_,h3,h4⟩:=h.things
 have:=List.Nodup.length_le_of_subset h1 (l₂:=V) fun x hx=>by obtain ⟨i,hi⟩:=h4 x hx;exact hV i x hi
 omega
theorem Rel.have_in (h:Rel S A) (ht:t<64) {V:List Thing} (hV:Within S V):∀x∈(A t).have_,x∈V:=fun x hx=>by
 obtain ⟨i,e,_,_,h3⟩:=(h.own t ht x).1 hx
 exact hV i x h3
theorem Rel.nodes_has (h:Rel S A) (ht:t<64) {T:Tree} (hh:Go.Proofs.YthohnjgnpapnoaaGreatDoor.hasT (A t).have_ T=true):∀x∈nodes T,x∈(A t).have_:=Go.Proofs.YthohnjgnpapnoaaGreatDoor.nodes_has (h.ok t ht).closed hh
theorem Rel.sweep_stay (h:Rel S A) {n:Nat} (hs:SweepR S S' n):∀u,u<64→∀x id,Go.Proofs.YthohnjgnpapnoaaGreatDoor.hasT (A u).have_ x=true→Den S id x→Den S' id x:=fun u hu x id hx hd=>
 Den.staysO h.inv (h.sweep hs).2.1 (h.ok u hu).closed (fun y hy=>by
  obtain ⟨i,e,q1,q2,q3⟩:=(h.own u hu y).1 hy
  exact ⟨i,e,q1,testBit_ne q2,q3⟩) hx hd
theorem KeyT.stay {k:KeyA} {lv:Int} (hs:∀x id,Go.Proofs.YthohnjgnpapnoaaGreatDoor.hasT (A t).have_ x=true→Den S id x→Den S' id x):∀{x:Thing},kidsIn (A t).have_ x→KeyT S k lv x→KeyT S' k lv x
 | .sq ..,hk,h=>⟨h.1,h.2.1,hs _ _ hk.1 h.2.2.1,hs _ _ hk.2.1 h.2.2.2.1,hs _ _ hk.2.2.1 h.2.2.2.2.1,hs _ _ hk.2.2.2 h.2.2.2.2.2⟩
 | .note ..,hk,h=>⟨h.1,h.2.1,h.2.2.1,h.2.2.2.1,hs _ _ hk.1 h.2.2.2.2⟩
theorem ValT.stay {va:Int} (hs:∀x id,Go.Proofs.YthohnjgnpapnoaaGreatDoor.hasT (A t).have_ x=true→Den S id x→Den S' id x):∀{x:Thing},kidsIn (A t).have_ x→ValT S va x→ValT S' va x
 | .sq ..,_,_=>trivial
 | .note ..,hk,h=>hs _ _ hk.2.1 h
theorem Rel.swept (h:Rel S A) (ht:t<64) {n:Nat} (hs:SweepR S S' n) (hr:Roomy S A t) (hq:S.count t<S.quota t):S'.live<S'.room:=by
 obtain ⟨V0,h1,h2⟩:=hr
 obtain ⟨g1,_,_,g4,_⟩:=h.sweep hs
 obtain ⟨V,v1,v2,v3,v4⟩:=g1.things
 have hsub:∀x∈V,x∈V0++(A t).have_:=fun x hx=>by
  obtain ⟨i,hd⟩:=v4 x hx
  obtain ⟨e,he,hi⟩:=hd.ent
  have hm:e.mask≠0:=by
   obtain ⟨S1,k1,rfl⟩:=hs
   have hf:=k1.facts h.inv
   exact hf.clean i e (by rw [←hf.len];exact (List.getElem?_eq_some_iff.1 he).1) he hi
  obtain ⟨u,hu,hub⟩:=mask_bit hm (g1.inv.keys e (List.mem_of_getElem? he)).2.2.2
  have hx2:=(g1.own u hu x).2 ⟨i,e,he,hub,hd⟩
  by_cases e2:u=t
  ·subst e2;exact List.mem_append_right _ hx2
  ·exact List.mem_append_left _ (h1 u hu e2 x hx2)
 have:=List.Nodup.length_le_of_subset v1 hsub
 rw [List.length_append] at this
 have hc:=h.count ht
 omega
theorem make_back (h:Rel S A) {i:Nat} {k:KeyA} {lv va:Int} (ht2:TakeR S i S1) {j:Nat} {y:Thing} (hd:DenT (newS S1 i k lv va) j y):j=i∨∃z,DenT S j z:=by
 by_cases hj:j=i
 ·exact .inl hj
 ·obtain ⟨e,he,hx⟩:=hd.ent
  have hE:S1.ents[j]? =S.ents[j]? :=by
   rcases ht2 with ⟨fr,hp,rfl⟩ | ⟨hf,hi,rfl⟩
   ·rfl
   ·show (S.ents++ [zeroE])[j]? =_
    by_cases hl:j<S.ents.length
    ·rw [List.getElem?_append_left hl]
    ·rw [List.getElem?_eq_none (by simp;omega),List.getElem?_eq_none (by omega)]
  have he:(S1.ents.set i ⟨k,lv,va,0⟩)[j]? =some e:=he
  rw [List.getElem?_set_ne (Ne.symm hj),hE] at he
  have hx:(if e.key=k then some (i:Int) else S1.idx e.key)=some (j:Int):=hx
  split at hx
  ·have:=Option.some.inj hx;omega
  ·rw [ht2.keeps.2.2.1] at hx
   obtain ⟨z,hz⟩:=h.good j e he hx
   exact .inr ⟨z,hz⟩
theorem Rel.giveG (h:Rel S A) (ht:t<64) {k:KeyA} {lv va r c:Int} {x:Thing} (hk:k.ok) (hlv:0≤lv∧lv≤44) (hx:KeyT S k lv x) (hv:ValT S va x) (hkid:kidsIn (A t).have_ x) (hg:GiveR S t k lv va r c S'):
 ∃A',Made t [x] S A 0 S' A' c∧(c=0→∃i:Nat,r=i∧DenT S' i x):=by
 have hdn:∀{i:Nat} {e:EntD},S.idx k=some (i:Int)→S.ents[i]? =some e→e.key=k∧DenT S i x:=fun {i e} hi he=>by
  have hek:=h.inv.idx_of he hi
  obtain ⟨y,hy⟩:=h.good i e he (hek▸hi)
  have:=KeyT.of h.inv he hek hx hy
  subst this
  exact ⟨hek,hy⟩
 have hup:∀{B:Abs},x∉(A t).have_→B=⟨(A t).have_++ [x],(A t).added++ [x]⟩→(∀y,y∈(upd A t B t).have_↔y∈(A t).have_∨y∈ [x])∧∀y,y∈(upd A t B t).added↔y∈(A t).added∨y∈ [x]∧y∉(A t).have_:=by
  intro B hno hB
  subst hB
  refine ⟨fun y=>by rw [upd_same,List.mem_append],fun y=>?_⟩
  rw [upd_same,List.mem_append,List.mem_singleton]
  constructor
  ·rintro (a | a)
   ·exact .inl a
   ·exact .inr ⟨a,a▸hno⟩
  ·rintro (a | ⟨a,_⟩)
   ·exact .inl a
   ·exact .inr a
 have hnw:∀{B:Abs},x∉(A t).have_→B=⟨(A t).have_++ [x],(A t).added++ [x]⟩→∀y,y∈(upd A t B t).added↔y∈(A t).added∨y∈(upd A t B t).have_∧y∉(A t).have_:=by
  intro B hno hB y
  obtain ⟨h1,h2⟩:=hup hno hB
  rw [h1,h2]
  by_cases a:y∈(A t).have_<;>by_cases b:y∈ [x]<;>simp [a,b]
 have hmo:∀{B:Abs},B=⟨(A t).have_++ [x],(A t).added++ [x]⟩→∀y∈(A t).have_,y∈(upd A t B t).have_:=by
  intro B hB y hy
  subst hB
  rw [upd_same];exact List.mem_append_left _ hy
 have hlst:∀{B:Abs},x∉(A t).have_→B=⟨(A t).have_++ [x],(A t).added++ [x]⟩→∀V:List Thing,(∀y∈(A t).have_,y∈V)→(∀y∈ [x],y∈V)→∀y∈(upd A t B t).have_,y∈V:=by
  intro B hno hB V a1 a2 y hy
  rcases ((hup hno hB).1 y).1 hy with a | a
  ·exact a1 y a
  ·exact a2 y a
 cases hg with
 | has i e hi he hb=>
   obtain ⟨hek,hd⟩:=hdn hi he
   have hm:x∈(A t).have_:=(h.own t ht x).2 ⟨i,e,he,hb,hd⟩
   exact ⟨A,(Made.refl h t 0).of (fun _ h=>by cases h) (fun _ y hy=>by rw [List.mem_singleton.1 hy];exact .inr hm),fun _=>⟨i,rfl,hd⟩⟩
 | much hno hq=>
   have hm:x∉(A t).have_:=fun hm=>by
    obtain ⟨j,e,q1,q2,q3⟩:=(h.own t ht x).1 hm
    obtain ⟨e',q4,q5,q6⟩:=hx.key q3
    rw [q1] at q4;cases q4
    rw [hno j e q6 q1] at q2;cases q2
   rw [h.count ht] at hq
   have hnd:((A t).have_++ [x]).Nodup:=List.nodup_append.2 ⟨(h.ok t ht).nodup,by simp,fun a ha b hb=>by
    rw [List.mem_singleton] at hb;subst hb;rintro rfl;exact hm ha⟩
   have hmore:∀V:List Thing,(∀x∈(A t).have_,x∈V)→(∀y∈ [x],y∈V)→S.quota t<(V.length:Int):=fun V a1 a2=>by
    have:=List.Nodup.length_le_of_subset hnd (l₂:=V) fun y hy=>by
     rcases List.mem_append.1 hy with a | a
     ·exact a1 y a
     ·exact a2 y a
    rw [List.length_append,List.length_singleton] at this
    omega
   refine ⟨A,⟨St.refl h t,(fun e=>by cases e),.inr ⟨rfl,.inl rfl⟩,fun V hV hL hr hq2=>?_,fun V a1 _=>a1,fun _ _=>hmore,id,fun _=> .inr rfl⟩,fun e=>by cases e⟩
   have:=hmore V (fun y hy=>h.have_in ht hV y hy) hL
   omega
 | joins i e hi he hb hq=>
   obtain ⟨hek,hd⟩:=hdn hi he
   obtain ⟨hno,tw,hrel⟩:=h.gain ht he hb (hek▸hi) hd hkid
   refine ⟨_,⟨⟨hrel,fun u hu=>upd_ne _ _ hu,hmo rfl,fun ha u hu=>?_,fun u hu y id _ hd=>tw.den.2 hd,by rw [gain_in he],by rw [gain_in he],hnw hno rfl⟩,fun _=>⟨rfl,hup hno rfl⟩,.inl rfl,fun V hV hL hr hq=>⟨rfl,fun j y hd=>hV j y (tw.denT.1 hd),tw.stays⟩,hlst hno rfl,(fun _ e=>by cases e),fun _=>?_,fun _=> .inl rfl⟩,fun _=>⟨i,rfl,tw.denT.2 hd⟩⟩
   case refine_2=>
    rw [gain_in he]
    show upd S.count t (S.count t+1) t≤S.quota t
    rw [upd_same];omega
   rw [gain_in he]
   show ((upd S.added t (S.added t++ [(i:Int)]) u).length:Int)≤upd S.count t (S.count t+1) u
   by_cases hut:u=t
   ·subst hut
    rw [upd_same,upd_same,List.length_append,List.length_singleton]
    have:=ha u hu;omega
   ·rw [upd_ne _ _ hut,upd_ne _ _ hut];exact ha u hu
 | full S0 n hn hq hr hs hr2=>
   obtain ⟨s1,s2,s3,s4,s5⟩:=h.sweep hs
   have hkp:=sweep_keeps h.inv hs
   refine ⟨A,⟨⟨s1,fun _ _=>rfl,fun _ h=>h,fun ha u hu=>by rw [hkp.1,hkp.2.2.1];exact ha u hu,h.sweep_stay hs,s3,s4,(St.refl h t).new⟩,(fun e=>by cases e),.inr ⟨rfl,.inr rfl⟩,fun V hV hL hr3 hq2=>?_,fun V a1 _=>a1,(fun _ e=>by cases e),fun e=>by rw [hkp.1,s3];exact e,fun hr=>?_⟩,fun e=>by cases e⟩
   ·have:=h.live_le hV;omega
   ·have:=h.swept ht hs hr hq;omega
 | makes S0 S1 i hn hq hs hr ht2=>
   obtain ⟨h0,hst0,hq0,hr0,hc0,ha0,hn0⟩:Rel S0 A∧(∀u,u<64→∀x id,Go.Proofs.YthohnjgnpapnoaaGreatDoor.hasT (A u).have_ x=true→Den S id x→Den S0 id x)∧S0.quota=S.quota∧S0.room=S.room∧S0.count=S.count∧S0.added=S.added∧S0.idx k=none:=by
    rcases hs with ⟨_,rfl⟩ | ⟨_,n,hs⟩
    ·exact ⟨h,fun _ _ _ _ _ hd=>hd,rfl,rfl,rfl,rfl,hn⟩
    ·obtain ⟨s1,s2,s3,s4,s5⟩:=h.sweep hs
     have hkp:=sweep_keeps h.inv hs
     exact ⟨s1,h.sweep_stay hs,s3,s4,hkp.1,hkp.2.2.1,hs.gone h.inv hn⟩
   have hx0:KeyT S0 k lv x:=KeyT.stay (A:=A) (t:=t) (fun y id hy hd=>hst0 t ht y id hy hd) hkid hx
   have hv0:ValT S0 va x:=ValT.stay (A:=A) (t:=t) (fun y id hy hd=>hst0 t ht y id hy hd) hkid hv
   obtain ⟨hrel,he,hi,hd,hst⟩:=h0.make (va:=va) ht2 hk hlv hn0 hr hx0 hv0
   obtain ⟨hno,tw,hrel2⟩:=hrel.gain ht he (by simp) hi hd hkid
   obtain ⟨k1,k2,k3,k4,k5,k6,k7⟩:=ht2.keeps
   refine ⟨_,⟨⟨hrel2,fun u hu=>upd_ne _ _ hu,hmo rfl,fun ha u hu=>?_,fun u hu y id hy hd=>tw.den.2 (Den.stays hst (hst0 u hu y id hy hd)),by rw [gain_in he];exact k5.trans hq0,by rw [gain_in he];exact k7.trans hr0,hnw hno rfl⟩,fun _=>⟨rfl,hup hno rfl⟩,.inl rfl,fun V hV hL hr3 hq2=>?_,hlst hno rfl,(fun _ e=>by cases e),fun _=>?_,fun _=> .inl rfl⟩,fun _=>⟨i,rfl,tw.denT.2 hd⟩⟩
   case refine_3=>
    rw [gain_in he]
    show upd S1.count t (S1.count t+1) t≤S1.quota t
    rw [upd_same,k4,k5,hc0,hq0];omega
   ·rw [gain_in he]
    show ((upd S1.added t (S1.added t++ [(i:Int)]) u).length:Int)≤upd S1.count t (S1.count t+1) u
    rw [k6,k4,ha0,hc0]
    by_cases hut:u=t
    ·subst hut
     rw [upd_same,upd_same,List.length_append,List.length_singleton]
     have:=ha u hu;omega
    ·rw [upd_ne _ _ hut,upd_ne _ _ hut];exact ha u hu
   ·rcases hs with ⟨_,rfl⟩ | ⟨hr2,_⟩
    ·refine ⟨rfl,fun j y hdj=>?_,Stays.trans hst tw.stays⟩
     have hdj:=tw.denT.1 hdj
     rcases make_back h0 ht2 hdj with rfl | ⟨z,hz⟩
     ·rw [DenT.fn hrel.inv hdj hd];exact hL x (List.mem_singleton.2 rfl)
     ·rw [DenT.fn hrel.inv hdj (DenT.stays hst hz)];exact hV j z hz
    ·have:=h.live_le hV;omega
theorem Rel.joinG (h:Rel S A) (ht:t<64) {a b c d:Tree} {q0 q1 q2 q3 r x:Int} {n:Int} (d0:Den S q0 a) (d1:Den S q1 b) (d2:Den S q2 c) (d3:Den S q3 d)
 (h0:Go.Proofs.YthohnjgnpapnoaaGreatDoor.hasT (A t).have_ a=true) (h1:Go.Proofs.YthohnjgnpapnoaaGreatDoor.hasT (A t).have_ b=true) (h2:Go.Proofs.YthohnjgnpapnoaaGreatDoor.hasT (A t).have_ c=true) (h3:Go.Proofs.YthohnjgnpapnoaaGreatDoor.hasT (A t).have_ d=true) (e0:a.lvl=n) (e1:b.lvl=n) (e2:c.lvl=n) (e3:d.lvl=n) (hn:n<44) (hj:JoinR S t q0 q1 q2 q3 r x S'):
 ∃A',Made t (nodes (.node a b c d)) S A 0 S' A' x∧(x=0→Den S' r (.node a b c d)):=by
 have o0:ownsB S t q0 0=true:=by rw [h.owns ht d0];exact h0
 have o1:ownsB S t q1 0=true:=by rw [h.owns ht d1];exact h1
 have o2:ownsB S t q2 0=true:=by rw [h.owns ht d2];exact h2
 have o3:ownsB S t q3 0=true:=by rw [h.owns ht d3];exact h3
 have l0:=d0.level h.inv
 have l1:=d1.level h.inv
 have l2:=d2.level h.inv
 have l3:=d3.level h.inv
 have four:∀j,j<4→j=0∨j=1∨j=2∨j=3:=fun j hj=>by omega
 cases hj with
 | none j hj ho=>
   exfalso
   rcases four j hj with rfl | rfl | rfl | rfl
   ·rw [show qAt q0 q1 q2 q3 0=q0 from rfl,o0] at ho;cases ho
   ·rw [show qAt q0 q1 q2 q3 1=q1 from rfl,o1] at ho;cases ho
   ·rw [show qAt q0 q1 q2 q3 2=q2 from rfl,o2] at ho;cases ho
   ·rw [show qAt q0 q1 q2 q3 3=q3 from rfl,o3] at ho;cases ho
 | level j _ hj hl=>
   exfalso
   rcases hl with hl | hl
   ·rcases four j hj with rfl | rfl | rfl | rfl
    ·exact hl rfl
    ·exact hl (show levelOf S q1=levelOf S q0 by omega)
    ·exact hl (show levelOf S q2=levelOf S q0 by omega)
    ·exact hl (show levelOf S q3=levelOf S q0 by omega)
   ·omega
 | gives r x S' ho hl hlt hgr=>
   have hok:(⟨0,q0,q1,q2,q3⟩:KeyA).ok:=⟨⟨by show (-9223372036854775808:Int)≤0;decide,by show (0:Int)≤9223372036854775807;decide⟩,own_i64 h.inv o0,own_i64 h.inv o1,own_i64 h.inv o2,own_i64 h.inv o3⟩
   have hl0:=a.lvl_pos
   obtain ⟨A',g1,g2⟩:=h.giveG ht (x:= .sq a b c d) hok (by omega) ⟨rfl,by omega,d0,d1,d2,d3⟩ trivial ⟨h0,h1,h2,h3⟩ hgr
   refine ⟨A',g1.of (fun y hy=>by rw [List.mem_singleton.1 hy];exact mem_nodes.2 (.inl rfl)) (fun _ y hy=>?_),fun e=>?_⟩
   ·rcases mem_nodes.1 hy with k | k | k | k | k
    ·exact .inl (List.mem_singleton.2 k)
    ·exact .inr (h.nodes_has ht h0 y k)
    ·exact .inr (h.nodes_has ht h1 y k)
    ·exact .inr (h.nodes_has ht h2 y k)
    ·exact .inr (h.nodes_has ht h3 y k)
   ·obtain ⟨i,rfl,hd⟩:=g2 e
    exact hd
end
end Go.Proofs.YthohnjgnpapnoaaGreatDoor
namespace Go.Proofs.YthohnjgnpapnoaaGreatDoor
open Go.RowKit
def kidsA (S:ArS) (t:Nat) (id:Int) (e:Ending):Prop:=
 (ownsB S t id 0=false∨id<2)∧e= .returned (.tuple #[.agg #[.int .i64 0,.int .i64 0,.int .i64 0,.int .i64 0],.int .i64 6])∨
 ∃(i:Nat) (en:EntD),id=i∧2≤i∧S.ents[i]? =some en∧ownsB S t id 0=true∧e= .returned (.tuple #[.agg #[.int .i64 en.key.a0,.int .i64 en.key.a1,.int .i64 en.key.a2,.int .i64 en.key.a3],.int .i64 0])
set_option maxRecDepth 100000 in
set_option maxHeartbeats 3200000 in
theorem kids_any (w:World) (p:Nat) (R:ArR) (S:ArS) (h:ArM w p R S) (hlen:2≤S.ents.length) (t:Nat) (ht:t<64) (id:Int):
 Calls Tryz.prog 191 #[.pointer (some ⟨p,0,none⟩),.int .i64 t,.int .i64 id] w fun e w'=>kidsA S t id e∧Below w.heap.size w w':=by
 have HA2:Hid (ArM (w.alloc (.cells #[.int .i64 0,.int .i64 0,.int .i64 0,.int .i64 0] 22)) p R S):=h.alloc _
 obtain ⟨b,off,cap,hlv,hc1,hc2,hc,_⟩:=HA2.out.ents (by omega)
 have c0:=HA2.out.cList
 rw [hlv] at c0
 have HC:=Lib.hid hc
 have k4:(t:Int)<64:=by omega
 have HO:=Lib.hid (owns_any _ p R S HA2.out hlen t ht id 0)
 clear h hc hlv
 by_cases h2:id<2
 ·have H2:=Lib.hid h2
  generalize hL:S.ents.length=n at*
  clear hL
  go_enter Tryz.func191,Tryz.ntmps191
  go_wp2_with fail
  (with_reducible refine (tenant_any _ t).mono ?_)
  rintro e wq ⟨rfl,rfl⟩
  rw [decide_eq_true (show 0≤(t:Int)∧(t:Int)<64 by omega)]
  go_wp2_with fail
  go_returns
  exact ⟨.inl ⟨.inr H2.out,rfl⟩,(Below.refl _ _).alloc (Nat.le_refl _) _⟩
 ·cases hb:ownsB S t id 0
  ·rw [hb] at HO
   have HB:=Lib.hid hb
   clear hb
   generalize hL:S.ents.length=n at*
   clear hL
   go_enter Tryz.func191,Tryz.ntmps191
   go_wp2_with fail
   (with_reducible refine (tenant_any _ t).mono ?_)
   rintro e wq ⟨rfl,rfl⟩
   rw [decide_eq_true (show 0≤(t:Int)∧(t:Int)<64 by omega)]
   go_wp2_with fail
   (with_reducible refine HO.out.mono ?_)
   rintro e wq ⟨rfl,rfl⟩
   go_wp2_with fail
   go_returns
   exact ⟨.inl ⟨.inl HB.out,rfl⟩,(Below.refl _ _).alloc (Nat.le_refl _) _⟩
  ·rw [hb] at HO
   obtain ⟨i,e,rfl,hi,he⟩:=owns_range hlen hb
   have c1:=HC.out i e 1 _ he rfl
   have c2:=HC.out i e 2 _ he rfl
   have c3:=HC.out i e 3 _ he rfl
   have c4:=HC.out i e 4 _ he rfl
   rw [show off+i*8+2=off+i*8+1+1 from rfl] at c2
   rw [show off+i*8+3=off+i*8+1+2 from rfl] at c3
   rw [show off+i*8+4=off+i*8+1+3 from rfl] at c4
   have hil:(i:Int)<(S.ents.length:Int):=by omega
   have HB:=Lib.hid hb
   have HE:=Lib.hid he
   have HI:Hid (2≤i):=by show 2≤i;omega
   clear hi he hb
   generalize hL:S.ents.length=n at*
   clear hL
   go_enter Tryz.func191,Tryz.ntmps191
   go_wp2_with fail
   (with_reducible refine (tenant_any _ t).mono ?_)
   rintro e' wq ⟨rfl,rfl⟩
   rw [decide_eq_true (show 0≤(t:Int)∧(t:Int)<64 by omega)]
   go_wp2_with fail
   (with_reducible refine HO.out.mono ?_)
   rintro e' wq ⟨rfl,rfl⟩
   go_wp2_with fail
   go_returns
   exact ⟨.inr ⟨i,e,rfl,HI.out,HE.out,HB.out,rfl⟩,(Below.refl _ _).alloc (Nat.le_refl _) _⟩
end Go.Proofs.YthohnjgnpapnoaaGreatDoor
namespace Go.Proofs.YthohnjgnpapnoaaGreatDoor
open Go.RowKit
def handC (p t:Nat) (bad:Int) (more:List Value):Array Value:=(.pointer (some ⟨p,0,none⟩):: .int .i64 t:: .int .i64 bad::more).toArray
theorem handC_set (p t:Nat) (bad x:Int) (more:List Value):(handC p t bad more).setIfInBounds 2 (.int .i64 x)=handC p t x more:=by
 unfold handC;simp
structure Hd (w:World) (hb:Nat) (ty:TypeId) (more:List Value) (p:Nat) (R:ArR) (S:ArS) (A:Nat→Abs) (t:Nat) (bad:Int):Prop where
 arm:ArM w p R S
 blk:Blk w hb ty (handC p t bad more)
 ne:¬Own p R hb
 rel:Rel S A
 add:∀u,u<64→((S.added u).length:Int)≤S.count u
 ht:t<64
structure StepH (X:Nat→Prop) (p:Nat) (R R':ArR) (w w':World):Prop where
 mod:Mod (fun b=>Own p R b∨X b) w w'
 own:∀b,Own p R' b→Own p R b∨w.heap.size≤b
section
variable {X Y : Nat → Prop} {p hb t : Nat} {R R1 R' : ArR} {w w1 w' : World} {S S' : ArS} {A A' : Nat → Abs} {ty : TypeId} {more : List Value} {bad bad' : Int}
theorem StepH.refl (X:Nat→Prop) (p:Nat) (R:ArR) (w:World):StepH X p R R w w:=⟨Mod.refl _ _,fun _ h=> .inl h⟩
theorem Step.toH (h:Step p R R' w w') (X:Nat→Prop):StepH X p R R' w w':=⟨h.mod.mono fun _ _ h=> .inl h,h.own⟩
theorem StepH.trans (h:StepH X p R R1 w w1) (k:StepH X p R1 R' w1 w'):StepH X p R R' w w':=
 ⟨h.mod.trans k.mod fun b hb ho=>by
  rcases ho with ho | ho
  ·rcases h.own b ho with h1 | h1
   ·exact .inl h1
   ·omega
  ·exact .inr ho,fun b hb=>by
  rcases k.own b hb with h1 | h1
  ·exact h.own b h1
  ·exact .inr (Nat.le_trans h.mod.size h1)⟩
theorem StepH.wide (h:StepH X p R R' w w') (hX:∀b,b<w.heap.size→X b→Y b):StepH Y p R R' w w':=
 ⟨h.mod.mono fun b hb ho=>by
  rcases ho with ho | ho
  ·exact .inl ho
  ·exact .inr (hX b hb ho),h.own⟩
theorem StepH.drew (h:StepH X p R R' w w'):StepH X p R R' w w'.drew:=⟨h.mod.drew,h.own⟩
theorem StepH.alloc (h:StepH X p R R' w w') (o:Obj):StepH X p R R' w (w'.alloc o):=⟨h.mod.alloc o,h.own⟩
theorem StepH.set (h:StepH X p R R' w w') {q:Addr} (hq:q.block<w.heap.size→X q.block) (u:Value):StepH X p R R' w (w'.setCell q u):=⟨h.mod.set (fun hb=> .inr (hq hb)) u,h.own⟩
theorem StepH.of_below (h:Below w.heap.size w w'):StepH X p R R w w':=⟨(Mod.of_below_all h).mono fun _ _ h=>h.elim,fun _ h=> .inl h⟩
theorem StepH.not (h:StepH X p R R' w w') {b:Nat} (hb:b<w.heap.size) (ho:¬Own p R b):¬Own p R' b:=fun k=>by
 rcases h.own b k with k | k
 ·exact ho k
 ·omega
theorem ArM.below (h:ArM w p R S) (hb:Below w.heap.size w w'):ArM w' p R S:=h.keep (Mod.of_below_all hb) fun _ _ h=>h
theorem Hd.inv (h:Hd w hb ty more p R S A t bad):Inv S:=h.rel.inv
theorem Hd.few (h:Hd w hb ty more p R S A t bad):(S.added t).length≤1000000:=by
 have:=h.add t h.ht
 have:=h.rel.inv.cnt_le h.ht
 omega
theorem Hd.below (h:Hd w hb ty more p R S A t bad) (hb':Below w.heap.size w w'):Hd w' hb ty more p R S A t bad:=
 ⟨h.arm.below hb',h.blk.mod (Mod.of_below_all hb') (fun h=>h),h.ne,h.rel,h.add,h.ht⟩
theorem Sl.below {t:TypeId} {sz n:Nat} {v:Value} {xs:List Value} (h:Sl w t sz v n xs) (hb:Below w.heap.size w w1):Sl w1 t sz v n xs:=h.mod (Mod.of_below_all hb) (fun _ _ h=>h)
theorem Hd.drew (h:Hd w hb ty more p R S A t bad):Hd w.drew hb ty more p R S A t bad:=⟨h.arm.drew,h.blk,h.ne,h.rel,h.add,h.ht⟩
theorem ArM.drewN (h:ArM w p R S) (d:Nat):ArM (w.drewN d) p R S:=⟨h.blk,h.list,h.idx.of_block rfl,h.free,h.added,h.sep1,h.sep2,h.masks⟩
theorem Hd.alloc (h:Hd w hb ty more p R S A t bad) (o:Obj):Hd (w.alloc o) hb ty more p R S A t bad:=h.below ((Below.refl _ _).alloc (Nat.le_refl _) _)
theorem Hd.c0 (h:Hd w hb ty more p R S A t bad):w.cell? ⟨hb,0,none⟩=some (.pointer (some ⟨p,0,none⟩)):=h.blk.cellS rfl
theorem Hd.c1 (h:Hd w hb ty more p R S A t bad):w.cell? ⟨hb,1,none⟩=some (.int .i64 t):=h.blk.cellS rfl
theorem Hd.c2 (h:Hd w hb ty more p R S A t bad):w.cell? ⟨hb,2,none⟩=some (.int .i64 bad):=h.blk.cellS rfl
theorem Hd.f (h:Hd w hb ty more p R S A t bad) (j:Nat):w.frozen? ⟨hb,j,none⟩=false:=h.blk.frozen j
theorem ArM.far (h:ArM w p R S) {q:Addr} (hq:¬Own p R q.block) (u:Value):ArM (w.setCell q u) p R S:=
 h.keep (T:=fun b=>b=q.block) ((Mod.refl (fun b=>b=q.block) w).set (p:=q) (fun _=>rfl) u) fun b hb e=>by subst e;exact hq hb
theorem Hd.step (h:Hd w hb ty more p R S A t bad) (ha:ArM w1 p R1 S') (hs:Step p R R1 w w1) (hst:St t S A S' A') (x:Int):Hd (w1.setCell ⟨hb,2,none⟩ (.int .i64 x)) hb ty more p R1 S' A' t x:=by
 have hlt:=h.blk.lt
 have hne:¬Own p R1 hb:=(hs.toH (fun _=>False)).not hlt h.ne
 refine ⟨ha.far (q:=⟨hb,2,none⟩) hne _,?_,hne,hst.rel,hst.add h.add,h.ht⟩
 rw [←handC_set p t bad x more]
 exact (h.blk.mod hs.mod h.ne).set 2 _
theorem Hd.stepH (_h:Hd w hb ty more p R S A t bad) (hs:Step p R R1 w w1) (x:Int):StepH (fun b=>b=hb) p R R1 w (w1.setCell ⟨hb,2,none⟩ (.int .i64 x)):=(hs.toH (fun b=>b=hb)).set (q:=⟨hb,2,none⟩) (fun _=>rfl) _
theorem Hd.keep {T:Nat→Prop} (h:Hd w hb ty more p R S A t bad) (hm:Mod T w w') (h1:∀b,Own p R b→¬T b) (h2:¬T hb):Hd w' hb ty more p R S A t bad:=
 ⟨h.arm.keep hm h1,h.blk.mod hm h2,h.ne,h.rel,h.add,h.ht⟩
end
theorem kept2 {p a b:Nat} {R R':ArR} {w w':World} (h:Step p R R' w.drew w') (ha:a<w.heap.size) (hna:¬Own p R a) (hb:b<w.heap.size) (hnb:¬Own p R b):
 (∀j,w'.cell? ⟨a,j,none⟩=w.cell? ⟨a,j,none⟩)∧∀j,w'.cell? ⟨b,j,none⟩=w.cell? ⟨b,j,none⟩:=
 ⟨fun j=>h.mod.cell (a:=⟨a,j,none⟩) ha hna,fun j=>h.mod.cell (a:=⟨b,j,none⟩) hb hnb⟩
def Has (S:ArS) (A:Nat→Abs) (t:Nat) (id:Int) (T:Tree):Prop:=Den S id T∧hasT (A t).have_ T=true
theorem Has.st {S S':ArS} {A A':Nat→Abs} {t:Nat} {id:Int} {T:Tree} (h:Has S A t id T) (ht:t<64) (hs:St t S A S' A'):Has S' A' t id T:=⟨hs.stay t ht T id h.2 h.1,hs.hasT h.2⟩
theorem Den.i64 {S:ArS} (hI:Inv S) {id:Int} {T:Tree} (h:Den S id T):i64r id:=by
 cases T with
 | dead=>simp only [Den] at h;subst h;exact ⟨by decide,by decide⟩
 | alive=>simp only [Den] at h;subst h;exact ⟨by decide,by decide⟩
 | node a b c d=>
   simp only [Den] at h
   obtain ⟨i,e,rfl,h1,_⟩:=h
   have:=(List.getElem?_eq_some_iff.1 h1).1
   have:=hI.lenN
   exact ⟨by omega,by omega⟩
def HandPost (w:World) (hb:Nat) (ty:TypeId) (more:List Value) (p:Nat) (R:ArR) (S:ArS) (A:Nat→Abs) (t:Nat) (bad:Int) (T:Tree) (e:Ending) (w':World):Prop:=
 ∃(r:Int) (S':ArS) (A':Nat→Abs) (R':ArR) (bad':Int),e= .returned (.int .i64 r)∧Made t (nodes T) S A bad S' A' bad'∧(bad'=0→Has S' A' t r T)∧Hd w' hb ty more p R' S' A' t bad'∧StepH (fun b=>b=hb) p R R' w w'
set_option maxRecDepth 100000 in
set_option maxHeartbeats 3200000 in
theorem hjoin_any (w:World) (hb:Nat) (ty:TypeId) (more:List Value) (p:Nat) (R:ArR) (S:ArS) (A:Nat→Abs) (t:Nat) (bad:Int) (h:Hd w hb ty more p R S A t bad)
 (q0 q1 q2 q3:Int) (a b c d:Tree) (n:Int) (hq:bad=0→Has S A t q0 a∧Has S A t q1 b∧Has S A t q2 c∧Has S A t q3 d) (hl:a.lvl=n∧b.lvl=n∧c.lvl=n∧d.lvl=n) (hn:n<44):
 Calls Tryz.prog 151 #[.pointer (some ⟨hb,0,none⟩),.agg #[.int .i64 q0,.int .i64 q1,.int .i64 q2,.int .i64 q3]] w (HandPost w hb ty more p R S A t bad (.node a b c d)):=by
 have H:=Lib.hid h
 have HQ:=Lib.hid hq
 have HL:=Lib.hid hl
 clear h hq hl
 have H2:=Lib.hid (H.out.alloc (.cells #[.int .i64 q0,.int .i64 q1,.int .i64 q2,.int .i64 q3] 22))
 have HS2:Hid (Step p R R w (w.alloc (.cells #[.int .i64 q0,.int .i64 q1,.int .i64 q2,.int .i64 q3] 22))):=(Step.refl p R w).alloc _
 have HB2:=Lib.hid (Blk.new w 22 #[.int .i64 q0,.int .i64 q1,.int .i64 q2,.int .i64 q3])
 have c2:=H2.out.c2
 by_cases hb0:bad=0
 ·subst hb0
  have HQ0:=Lib.hid (HQ.out rfl)
  clear HQ
  go_enter Tryz.func151,Tryz.ntmps151
  go_wp2_with fail
  clear c2
  generalize World.alloc w _=w2 at H2 HS2 HB2 ⊢
  have c0:=H2.out.c0
  have c1:=H2.out.c1
  have b0:=HB2.out.cellS (i:=0) rfl
  have b1:=HB2.out.cellS (i:=1) rfl
  have b2:=HB2.out.cellS (i:=2) rfl
  have b3:=HB2.out.cellS (i:=3) rfl
  have HJ:=Lib.hid (join_any w2.drew p R S H2.out.arm.drew H2.out.inv H2.out.rel.live t H2.out.ht H2.out.few q0 q1 q2 q3)
  have HLT:=Lib.hid H2.out.blk.lt
  have HLB:=Lib.hid HB2.out.lt
  have HNB:Hid (¬Own p R w.heap.size):=fun ho=>Nat.lt_irrefl _ (H.out.arm.own_lt ho)
  go_region_held3 (fun w'=>w'.cell? ⟨hb,0,none⟩=some (.pointer (some ⟨p,0,none⟩))∧w'.cell? ⟨hb,1,none⟩=some (.int .i64 t)∧w'.cell? ⟨w.heap.size,0,none⟩=some (.int .i64 q0)∧w'.cell? ⟨w.heap.size,1,none⟩=some (.int .i64 q1)∧w'.cell? ⟨w.heap.size,2,none⟩=some (.int .i64 q2)∧w'.cell? ⟨w.heap.size,3,none⟩=some (.int .i64 q3))
   (first | exact ⟨c0,c1,b0,b1,b2,b3⟩ | exact ⟨e0,e1,e2,e3,e4,e5⟩ | go_keep)
   ((go_at_call 68;refine HJ.out.mono ?_;rintro e w3 ⟨r,x,S',R',rfl,hj,hA3,hs3⟩;obtain ⟨k1,k2⟩:=kept2 hs3 HLT.out H2.out.ne HLB.out HNB.out;have e0:=(k1 0).trans c0;have e1:=(k1 1).trans c1;have e2:=(k2 0).trans b0;have e3:=(k2 1).trans b1;have e4:=(k2 2).trans b2;have e5:=(k2 3).trans b3;clear k1 k2))
  obtain ⟨A',hm,hd⟩:=H2.out.rel.joinG (n:=n) H2.out.ht HQ0.out.1.1 HQ0.out.2.1.1 HQ0.out.2.2.1.1 HQ0.out.2.2.2.1 HQ0.out.1.2 HQ0.out.2.1.2 HQ0.out.2.2.1.2 HQ0.out.2.2.2.2 HL.out.1 HL.out.2.1 HL.out.2.2.1 HL.out.2.2.2 hn hj
  have HM:=Lib.hid hm
  have HD:Hid (x=0→Has S' A' t r (.node a b c d)):=fun e=>⟨hd e,has_nodes fun y hy=>((hm.ok e).2.1 y).2 (.inr hy)⟩
  have HE:=Lib.hid (H2.out.drew.step hA3 hs3 hm.st x)
  have HS3:=Lib.hid ((HS2.out.toH (fun b=>b=hb)).drew.trans (H2.out.drew.stepH hs3 x))
  have e6:=(hs3.mod.cell (a:=⟨hb,2,none⟩) HLT.out H2.out.ne).trans (H2.out.drew.c2)
  have f6:=(hs3.mod.frozen (a:=⟨hb,2,none⟩) HLT.out H2.out.ne).trans (H2.out.drew.f 2)
  clear hm hd hj hA3 hs3 e0 e1 e2 e3 e4 e5 c0 c1 b0 b1 b2 b3
  go_wp2_with fail
  go_returns
  exact ⟨r,S',A',R',x,rfl,HM.out,HD.out,HE.out,HS3.out⟩
 ·have hb1:(bad==0)=false:=beq_eq_false_iff_ne.2 hb0
  have HB0:=Lib.hid hb0
  clear hb0
  go_enter Tryz.func151,Tryz.ntmps151
  go_wp2_with fail
  go_returns
  exact ⟨0,S,A,R,bad,rfl,Made.none H.out.rel t HB0.out _,fun e=>absurd e HB0.out,H2.out,HS2.out.toH _⟩
end Go.Proofs.YthohnjgnpapnoaaGreatDoor
