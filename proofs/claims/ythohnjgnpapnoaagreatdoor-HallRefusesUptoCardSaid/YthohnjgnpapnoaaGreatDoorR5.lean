/- An entry's mask is written; lose, Limit, Mark. · arena: Limit, Mark, Undo, Level. · The arena: what always holds of it. · The arena's greater doings, as relations: sweeping, giving, joining, noting. · arena: Undo. · A bit of a mask. No program is named here. · leap: squares as trees, and what one becomes, in plain words. No program is named here. -/
import Derived.Test.YthohnjgnpapnoaaGreatDoorR4
import Derived.WalkKit
set_option linter.unusedVariables false
set_option linter.unusedSimpArgs false
namespace Go.Proofs.YthohnjgnpapnoaaGreatDoor
open Go.RowKit
theorem Sl.putAt {w:World} {t:TypeId} {b off n cap sz:Nat} {xs:List Value} (h:Sl w t sz (.slice (some ⟨b,off,none⟩) n cap) n xs) {i:Nat} (hi:i<n*sz) (u:Value):
 Sl (w.setCell ⟨b,off+i,none⟩ u) t sz (.slice (some ⟨b,off,none⟩) n cap) n (xs.set i u):=by
 obtain ⟨h1,A,cap',e,h2,h3,h4,h5⟩:=h
 injection e with e1 _ e2
 subst e1;subst e2
 obtain ⟨cs,c1,c2,c3,c4⟩:=h5 _ rfl
 refine ⟨by rw [List.length_set];exact h1,_,_,rfl,h2,h3,(fun h=>nomatch h),fun a ha=>?_⟩
 injection ha with ha;subst ha
 refine ⟨cs.setIfInBounds (off+i) u,rfl,c2.set _ _,by rw [Array.size_setIfInBounds];exact c3,?_⟩
 rw [←c4]
 simp only at c3 ⊢
 have hm:n*sz≤cap*sz:=Nat.mul_le_mul_right sz h2
 apply List.ext_getElem?
 intro j
 simp only [Array.toList_setIfInBounds,List.getElem?_set,List.getElem?_take,List.getElem?_drop,List.length_take,List.length_drop,Array.length_toList]
 have a1:off+i<cs.size:=by omega
 have a2:i<min (n*sz) (cs.size-off):=by omega
 by_cases hij:i=j
 ·subst hij
  simp [hi,a1,a2]
 ·have:off+i≠off+j:=by omega
  simp [hij]
theorem entsV_set:∀(l:List EntD) (i:Nat) (e:EntD) (m:Nat),l[i]? =some e→(entsV l).set (i*8+7) (.int .u64 (m:Int))=entsV (l.set i {e with mask:=m})
 | [],i,e,m,h=>by simp at h
 | a::l,0,e,m,h=>by
   simp at h;subst h
   simp [entsV,entV]
 | a::l,i+1,e,m,h=>by
   have ih:=entsV_set l i e m (by simpa using h)
   have e1:entsV (a::l)=entV a++entsV l:=rfl
   have e2:entsV ((a::l).set (i+1) {e with mask:=m})=entV a++entsV (l.set i {e with mask:=m}):=rfl
   rw [e1,e2,←ih,List.set_append_right _ _ (by simp [entV];omega)]
   congr 2
   simp [entV];omega
section
variable {w w' : World} {p : Nat} {R : ArR} {S : ArS}
theorem arCells_ents (R:ArR) (S:ArS) (l:List EntD):arCells R {S with ents:=l}=arCells R S:=rfl
theorem ArM.mask (h:ArM w p R S) {b off cap:Nat} (hlv:R.lv= .slice (some ⟨b,off,none⟩) S.ents.length cap) {i:Nat} {e:EntD} (he:S.ents[i]? =some e) {m:Nat} (hm:m<18446744073709551616):
 ArM (w.setCell ⟨b,off+i*8+7,none⟩ (.int .u64 (m:Int))) p R {S with ents:=S.ents.set i {e with mask:=m}}:=by
 have hi:=(List.getElem?_eq_some_iff.1 he).1
 obtain ⟨n1,n2,n3,n4⟩:=h.list_ne (b:=b) (by rw [hlv];rfl)
 refine ⟨?_,?_,?_,?_,?_,h.sep1,h.sep2,?_⟩
 ·rw [arCells_ents];exact h.blk.far (p:=⟨b,off+i*8+7,none⟩) (by show p≠b;exact Ne.symm n1) _
 ·have hl:=h.list
  rw [hlv] at hl ⊢
  have:=hl.putAt (i:=i*8+7) (by omega) (.int .u64 (m:Int))
  rw [entsV_set _ _ _ _ he,←Nat.add_assoc] at this
  show Sl _ EN 8 _ (S.ents.set i _).length (entsV (S.ents.set i _))
  rw [List.length_set];exact this
 ·exact h.idx.of_block (Below.heap_setCell w ⟨b,off+i*8+7,none⟩ _ R.mb (Ne.symm n2))
 ·exact h.free.far (p:=⟨b,off+i*8+7,none⟩) n3 _
 ·exact fun t ht=>(h.added t ht).far (p:=⟨b,off+i*8+7,none⟩) (n4 t ht) _
 ·intro e' he'
  rcases List.mem_or_eq_of_mem_set he' with h1 | h1
  ·exact h.masks _ h1
  ·rw [h1];exact hm
theorem Step.set (_h:ArM w p R S) {q:Addr} (hq:Own p R q.block) (u:Value):Step p R R w (w.setCell q u):=⟨(Mod.refl _ _).set (fun _=>hq) u,fun _ h=> .inl h⟩
theorem Step.drew {R':ArR} (h:Step p R R' w w'):Step p R R' w w'.drew:=⟨h.mod.drew,h.own⟩
theorem Own.list {b off n cap:Nat} (hlv:R.lv= .slice (some ⟨b,off,none⟩) n cap):Own p R b:= .inr (.inr (.inl (by rw [hlv];rfl)))
theorem arCells_count (R:ArR) (S:ArS) {t:Nat} (ht:t<64) (x:Int):(arCells R S).setIfInBounds (4+t) (.int .i64 x)=arCells R {S with count:=upd S.count t x}:=by
 refine arCells_set (by omega) ?_ fun j hj hne=>?_
 ·unfold arC
  rw [if_neg (by omega),if_neg (by omega),if_neg (by omega),if_neg (by omega),if_pos (by omega),Nat.add_sub_cancel_left]
  simp [upd]
 ·unfold arC upd
  by_cases h:j<68
  ·by_cases h4:4≤j
   ·simp only
    rw [if_neg (show ¬j-4=t by omega)]
   ·rcases (by omega:j=0∨j=1∨j=2∨j=3) with rfl | rfl | rfl | rfl<;>rfl
  ·simp only [h,if_false]
end
theorem wrap_pow {t:Nat} (ht:t<64):IntKind.u64.wrap (2^t)=((2^t:Nat):Int):=by
 have h:=pow_lt64 ht
 have e:((2:Int)^t)=((2^t:Nat):Int):=by simp
 rw [e,IntKind.wrap_u64]
 generalize 2^t=q at h ⊢
 exact Int.emod_eq_of_lt (Int.natCast_nonneg _) (Int.ofNat_lt.2 h)
theorem clr_bits {m t:Nat} (hm:m<18446744073709551616) (ht:t<64):bits .andNot .u64 (m:Int) (IntKind.u64.wrap (2^t))=((clrB m t:Nat):Int):=by
 rw [wrap_pow ht,u64_andNot_nat _ _ hm (pow_lt64 ht)];rfl
theorem set_bits {m t:Nat} (hm:m<18446744073709551616) (ht:t<64):bits .or .u64 (m:Int) (IntKind.u64.wrap (2^t))=((setB m t:Nat):Int):=by
 rw [wrap_pow ht,u64_or_nat _ _ hm (pow_lt64 ht)];rfl
def loseS (S:ArS) (t i:Nat):ArS:=match S.ents[i]? with
 | some e=>if e.mask.testBit t then {S with ents:=S.ents.set i {e with mask:=clrB e.mask t},count:=upd S.count t (S.count t-1)} else S
 | none=>S
end Go.Proofs.YthohnjgnpapnoaaGreatDoor
namespace Go.Proofs.YthohnjgnpapnoaaGreatDoor
open Go.RowKit
section
variable {w w' : World} {p : Nat} {R : ArR} {S : ArS}
theorem arCells_quota (R:ArR) (S:ArS) {t:Nat} (ht:t<64) (x:Int):(arCells R S).setIfInBounds (68+t) (.int .i64 x)=arCells R {S with quota:=upd S.quota t x}:=by
 refine arCells_set (by omega) ?_ fun j hj hne=>?_
 ·unfold arC
  rw [if_neg (by omega),if_neg (by omega),if_neg (by omega),if_neg (by omega),if_neg (by omega),if_pos (by omega),Nat.add_sub_cancel_left]
  simp [upd]
 ·unfold arC upd
  by_cases h:68≤j
  ·simp only
   rw [if_neg (show ¬j-68=t by omega)]
  ·have h68:j<68:=by omega
   simp only [h68,if_true]
theorem arCells_added (R:ArR) (S:ArS) {t:Nat} (ht:t<64) (v:Value) (l:List Int):(arCells R S).setIfInBounds (132+t) v=arCells {R with av:=upd R.av t v} {S with added:=upd S.added t l}:=by
 refine arCells_set (by omega) ?_ fun j hj hne=>?_
 ·unfold arC
  rw [if_neg (by omega),if_neg (by omega),if_neg (by omega),if_neg (by omega),if_neg (by omega),if_neg (by omega),if_pos (by omega),Nat.add_sub_cancel_left]
  simp [upd]
 ·unfold arC upd
  by_cases h:132≤j
  ·simp only
   rw [if_neg (show ¬j-132=t by omega)]
  ·have h1:j<132:=by omega
   simp only [h1,if_true]
theorem upd_same {α:Type} (f:Nat→α) (t:Nat) (x:α):upd f t x t=x:=by simp [upd]
theorem upd_ne {α:Type} (f:Nat→α) {t k:Nat} (x:α) (h:k≠t):upd f t x k=f k:=by simp [upd,h]
theorem ArM.setAdded (h:ArM w p R S) {t:Nat} (ht:t<64) {v:Value} {l:List Int} (hs:Sl w IT 1 v l.length (intsV l)) (hv:∀b,sblk v=some b→sblk (R.av t)=some b∨¬Own p R b):
 ArM (w.setCell ⟨p,132+t,none⟩ v) p {R with av:=upd R.av t v} {S with added:=upd S.added t l}:=by
 obtain ⟨n1,n2,n3,n4⟩:=h.p_ne
 have hvp:sblk v≠some p:=fun e=>by
  rcases hv p e with h1 | h1
  ·exact n4 t ht h1
  ·exact h1 (.inl rfl)
 refine ⟨by rw [←arCells_added R S ht v l];exact h.blk.set _ _,h.list.far (p:=⟨p,132+t,none⟩) n2 _,h.idx.of_block (Below.heap_setCell w ⟨p,132+t,none⟩ v R.mb n1.symm),h.free.far (p:=⟨p,132+t,none⟩) n3 _,fun k hk=>?_,fun k hk b hb=>?_,fun k k' hk hk' hne b hb=>?_,h.masks⟩
 ·show Sl _ IT 1 (upd R.av t v k) (upd S.added t l k).length (intsV (upd S.added t l k))
  by_cases e:k=t
  ·subst e;rw [upd_same,upd_same];exact hs.far (p:=⟨p,132+k,none⟩) hvp _
  ·rw [upd_ne _ _ e,upd_ne _ _ e];exact (h.added k hk).far (p:=⟨p,132+t,none⟩) (n4 k hk) _
 ·show sblk (upd R.av t v k)≠some b
  by_cases e:k=t
  ·subst e;rw [upd_same];intro e2
   rcases hv b e2 with h1 | h1
   ·exact h.sep1 k hk b hb h1
   ·exact h1 (.inr (.inr (.inr (.inl hb))))
  ·rw [upd_ne _ _ e];exact h.sep1 k hk b hb
 ·change sblk (upd R.av t v k)=some b at hb
  show sblk (upd R.av t v k')≠some b
  by_cases e:k=t
  ·subst e
   rw [upd_same] at hb
   rw [upd_ne _ _ (Ne.symm hne)]
   intro e2
   rcases hv b hb with h1 | h1
   ·exact h.sep2 k k' hk hk' hne b h1 e2
   ·exact h1 (.inr (.inr (.inr (.inr ⟨k',hk',e2⟩))))
  ·rw [upd_ne _ _ e] at hb
   by_cases e':k'=t
   ·subst e'
    rw [upd_same];intro e2
    rcases hv b e2 with h1 | h1
    ·exact h.sep2 k k' hk hk' hne b hb h1
    ·exact h1 (.inr (.inr (.inr (.inr ⟨k,hk,hb⟩))))
   ·rw [upd_ne _ _ e'];exact h.sep2 k k' hk hk' hne b hb
theorem Step.added (_h:ArM w p R S) {t:Nat} {v:Value} (hv:∀b,sblk v=some b→Own p R b∨w.heap.size≤b):Step p R {R with av:=upd R.av t v} w (w.setCell ⟨p,132+t,none⟩ v):=
 ⟨(Mod.refl _ _).set (p:=⟨p,132+t,none⟩) (fun _=> .inl rfl) _,fun b hb=>by
  rcases hb with h1 | h1 | h1 | h1 | ⟨k,hk,h1⟩
  ·exact .inl (.inl h1)
  ·exact .inl (.inr (.inl h1))
  ·exact .inl (.inr (.inr (.inl h1)))
  ·exact .inl (.inr (.inr (.inr (.inl h1))))
  ·change sblk (upd R.av t v k)=some b at h1
   by_cases e:k=t
   ·subst e;rw [upd_same] at h1;exact hv b h1
   ·rw [upd_ne _ _ e] at h1;exact .inl (.inr (.inr (.inr (.inr ⟨k,hk,h1⟩))))⟩
end
def levelOf (S:ArS) (id:Int):Int:=match S.ents[id.toNat]? with | some e=>e.level | none=>0
theorem owns_range {S:ArS} {t:Nat} {id kind:Int} (h2:2≤S.ents.length) (h:ownsB S t id kind=true):∃(i:Nat) (e:EntD),id=i∧i<S.ents.length∧S.ents[i]? =some e:=by
 unfold ownsB at h
 rw [Bool.or_eq_true] at h
 have key:∃i:Nat,id=i∧i<S.ents.length:=by
  rcases h with h | h
  ·simp at h
   rcases h.2 with rfl | rfl
   ·exact ⟨0,rfl,by omega⟩
   ·exact ⟨1,rfl,by omega⟩
  ·unfold entAt at h
   by_cases h3:2≤id
   ·rw [if_pos h3] at h
    cases he:S.ents[id.toNat]? with
    | none=>rw [he] at h;cases h
    | some e=>exact ⟨id.toNat,by omega,(List.getElem?_eq_some_iff.1 he).1⟩
   ·rw [if_neg h3] at h;cases h
 obtain ⟨i,h4,h5⟩:=key
 exact ⟨i,S.ents[i],h4,h5,List.getElem?_eq_getElem h5⟩
def nilV:Value:= .slice none 0 0
set_option maxRecDepth 100000 in
set_option maxHeartbeats 3200000 in
theorem level_any (w:World) (p:Nat) (R:ArR) (S:ArS) (h:ArM w p R S) (hlen:2≤S.ents.length) (t:Nat) (ht:t<64) (id:Int):
 Calls Tryz.prog 190 #[.pointer (some ⟨p,0,none⟩),.int .i64 t,.int .i64 id] w fun e w'=>
  e= .returned (.tuple (if ownsB S t id 0 then #[.int .i64 (levelOf S id),.int .i64 0] else #[.int .i64 0,.int .i64 6]))∧w=w':=by
 obtain ⟨b,off,cap,hlv,hc1,hc2,hc,_⟩:=h.ents (by omega)
 have c0:=h.cList
 rw [hlv] at c0
 have H:=Lib.hid h
 have HC:=Lib.hid hc
 have k4:(t:Int)<64:=by omega
 have HO:=Lib.hid (owns_any w p R S h hlen t ht id 0)
 clear h hc hlv
 cases hb:ownsB S t id 0
 ·rw [if_neg Bool.false_ne_true]
  rw [hb] at HO
  clear hb
  generalize hL:S.ents.length=n at*
  clear hL
  go_enter Tryz.func190,Tryz.ntmps190
  go_wp2_with fail
  (with_reducible refine (tenant_any w t).mono ?_)
  rintro e wq ⟨rfl,rfl⟩
  rw [decide_eq_true (show 0≤(t:Int)∧(t:Int)<64 by omega)]
  go_wp2_with fail
  (with_reducible refine HO.out.mono ?_)
  rintro e wq ⟨rfl,rfl⟩
  go_wp2_with fail
  go_ret2
  exact ⟨rfl,rfl⟩
 ·rw [if_pos rfl]
  rw [hb] at HO
  obtain ⟨i,e,rfl,hi,he⟩:=owns_range hlen hb
  have c1:w.cell? ⟨b,off+i*8+5,none⟩=some (.int .i64 e.level):=HC.out i e 5 _ he rfl
  have hil:(i:Int)<(S.ents.length:Int):=by omega
  have HX:Hid (levelOf S (i:Int)=e.level):=by show levelOf S (i:Int)=e.level;unfold levelOf;rw [Int.toNat_natCast,he]
  clear hi he hb
  generalize hL:S.ents.length=n at*
  clear hL
  go_enter Tryz.func190,Tryz.ntmps190
  go_wp2_with fail
  (with_reducible refine (tenant_any w t).mono ?_)
  rintro e wq ⟨rfl,rfl⟩
  rw [decide_eq_true (show 0≤(t:Int)∧(t:Int)<64 by omega)]
  go_wp2_with fail
  (with_reducible refine HO.out.mono ?_)
  rintro e wq ⟨rfl,rfl⟩
  go_wp2_with fail
  go_ret2
  exact ⟨by rw [HX.out];rfl,rfl⟩
end Go.Proofs.YthohnjgnpapnoaaGreatDoor
namespace Go.Proofs.YthohnjgnpapnoaaGreatDoor
open Go.RowKit
theorem countP_same {P Q:Nat→Bool} {n:Nat} (h:∀j,j<n→P j=Q j):(List.range n).countP P=(List.range n).countP Q:=
 List.countP_congr fun j hj=>by rw [h j (List.mem_range.1 hj)]
theorem countP_flip {P Q:Nat→Bool} {i:Nat}:∀{n:Nat},i<n→P i=false→Q i=true→(∀j,j<n→j≠i→P j=Q j)→(List.range n).countP Q=(List.range n).countP P+1
 | 0,h,_,_,_=>by omega
 | n+1,h,hp,hq,hj=>by
   rw [List.range_succ,List.countP_append,List.countP_append]
   by_cases hin:i=n
   ·subst hin
    rw [countP_same (fun j hj'=>(hj j (by omega) (by omega)).symm)]
    simp [hp,hq]
   ·rw [countP_flip (by omega) hp hq (fun j hj' hne=>hj j (by omega) hne)]
    simp [hj n (by omega) (Ne.symm hin)];omega
theorem countP_put {α:Type} (p:α→Bool):∀(l:List α) (i:Nat) (e e':α),l[i]? =some e→(l.set i e').countP p+(if p e then 1 else 0)=l.countP p+(if p e' then 1 else 0)
 | [],i,e,e',h=>by simp at h
 | a::l,0,e,e',h=>by
   simp at h;subst h
   rw [List.set_cons_zero,List.countP_cons,List.countP_cons];omega
 | a::l,i+1,e,e',h=>by
   have ih:=countP_put p l i e e' (by simpa using h)
   rw [List.set_cons_succ,List.countP_cons,List.countP_cons];omega
def zeroE:EntD:=⟨⟨0,0,0,0,0⟩,0,0,0⟩
def bitC (l:List EntD) (t:Nat):Nat:=l.countP fun e=>e.mask.testBit t
def inIdx (S:ArS) (i:Nat):Bool:=match S.ents[i]? with | some e=>decide (S.idx e.key=some (i:Int)) | none=>false
theorem inIdx_eq {S:ArS} {i:Nat} {e:EntD} (he:S.ents[i]? =some e):inIdx S i=decide (S.idx e.key=some (i:Int)):=by unfold inIdx;rw [he]
theorem inIdx_same {S S':ArS} {j:Nat} (h1:S'.ents[j]? =S.ents[j]?) (h2:∀e,S.ents[j]? =some e→(S'.idx e.key=some (j:Int)↔S.idx e.key=some (j:Int))):inIdx S' j=inIdx S j:=by
 cases he:S.ents[j]? with
 | none=>unfold inIdx;rw [h1,he]
 | some e=>rw [inIdx_eq he,inIdx_eq (h1.trans he),decide_eq_decide];exact h2 e he
theorem inIdx_no {S:ArS} {i:Nat} (h:∀k,S.idx k≠some (i:Int)):inIdx S i=false:=by
 cases he:S.ents[i]? with
 | none=>unfold inIdx;rw [he]
 | some e=>rw [inIdx_eq he,decide_eq_false_iff_not];exact h _
structure Inv (S:ArS):Prop where
 room:0≤S.room∧S.room≤200000
 zero:S.ents[0]? =some zeroE∧S.ents[1]? =some zeroE
 part:S.size+S.free.length+2=S.ents.length
 full:(S.ents.length:Int)≤2+S.room
 cnt:S.size=(List.range S.ents.length).countP (inIdx S)
 idx:∀k id,S.idx k=some id→∃(i:Nat) (e:EntD),id=i∧2≤i∧S.ents[i]? =some e∧e.key=k
 own:∀(i:Nat) e,S.ents[i]? =some e→e.mask≠0→2≤i∧S.idx e.key=some (i:Int)
 keys:∀e∈S.ents,e.key.ok∧0≤e.level∧e.level≤44∧e.mask<18446744073709551616
 nodup:S.free.Nodup
 free:∀x∈S.free,∃i:Nat,x=i∧2≤i∧S.ents[i]? =some zeroE∧∀k,S.idx k≠some x
 count:∀t,t<64→S.count t=bitC S.ents t
 added:∀t,t<64→∀x∈S.added t,∃i:Nat,x=i∧2≤i∧i<S.ents.length
section
variable {S : ArS}
theorem Inv.len (h:Inv S):2≤S.ents.length:=by have:=h.part;omega
theorem Inv.lenN (h:Inv S):S.ents.length≤200002:=by have:=h.full;have:=h.room;omega
theorem bitC_le (l:List EntD) (t:Nat):bitC l t≤l.length:=List.countP_le_length
theorem Inv.cnt_le (h:Inv S) {t:Nat} (ht:t<64):0≤S.count t∧S.count t≤200002:=by
 have:=h.count t ht;have:=bitC_le S.ents t;have:=h.lenN;omega
theorem zero_ok:zeroE.key.ok∧0≤zeroE.level∧zeroE.level≤44∧zeroE.mask<18446744073709551616:=by
 refine ⟨⟨?_,?_,?_,?_,?_⟩,?_,?_,?_⟩<;>first | (unfold zeroE i64r;decide) | (unfold zeroE;decide)
theorem testBit_ne {m t:Nat} (h:m.testBit t=true):m≠0:=by rintro rfl;simp at h
theorem set_some {α:Type} {l:List α} {i:Nat} {e e':α} (he:l[i]? =some e):(l.set i e')[i]? =some e':=by
 have:=(List.getElem?_eq_some_iff.1 he).1
 simp [this]
theorem Inv.remask (h:Inv S) {t i:Nat} {e:EntD} {m:Nat} {c:Int} {ad:Nat→List Int} (ht:t<64) (he:S.ents[i]? =some e) (hm:m<18446744073709551616) (hix:m≠0→2≤i∧S.idx e.key=some (i:Int))
 (hb:∀k,k≠t→m.testBit k=e.mask.testBit k) (hc:c+(if e.mask.testBit t then 1 else 0)=S.count t+(if m.testBit t then 1 else 0))
 (had:∀t,t<64→∀x∈ad t,∃i:Nat,x=i∧2≤i∧i<S.ents.length):
 Inv {S with ents:=S.ents.set i {e with mask:=m},count:=upd S.count t c,added:=ad}:=by
 have hi:=(List.getElem?_eq_some_iff.1 he).1
 have hg:∀j,(S.ents.set i {e with mask:=m})[j]? =if j=i then some {e with mask:=m} else S.ents[j]? :=by
  intro j
  by_cases hj:j=i
  ·subst hj;rw [if_pos rfl];exact set_some he
  ·rw [if_neg hj,List.getElem?_set_ne (Ne.symm hj)]
 have hin:∀j,inIdx {S with ents:=S.ents.set i {e with mask:=m},count:=upd S.count t c,added:=ad} j=inIdx S j:=by
  intro j
  unfold inIdx
  simp only [hg]
  by_cases hj:j=i
  ·subst hj;rw [if_pos rfl,he]
  ·rw [if_neg hj]
 have hz:∀j,j<2→(S.ents[j]? =some zeroE)→(S.ents.set i {e with mask:=m})[j]? =some zeroE:=by
  intro j hj hz
  rw [hg]
  by_cases hji:j=i
  ·subst hji
   rw [if_pos rfl]
   have:m=0:=by
    by_cases h0:m=0
    ·exact h0
    ·have:=(hix h0).1;omega
   rw [hz] at he;cases he;subst this;rfl
  ·rw [if_neg hji];exact hz
 refine ⟨h.room,⟨hz 0 (by omega) h.zero.1,hz 1 (by omega) h.zero.2⟩,?_,?_,?_,?_,?_,?_,h.nodup,?_,?_,?_⟩
 ·simp only [List.length_set];exact h.part
 ·simp only [List.length_set];exact h.full
 ·simp only [List.length_set]
  rw [countP_same (fun j _=>hin j)];exact h.cnt
 ·intro k id hk
  obtain ⟨j,e',h1,h2,h3,h4⟩:=h.idx k id hk
  by_cases hj:j=i
  ·subst hj
   rw [he] at h3;cases h3
   exact ⟨j,{e with mask:=m},h1,h2,set_some he,h4⟩
  ·exact ⟨j,e',h1,h2,by simp only [hg];rw [if_neg hj];exact h3,h4⟩
 ·intro j e' hj hne
  simp only [hg] at hj
  by_cases hji:j=i
  ·subst hji
   rw [if_pos rfl] at hj;cases hj
   exact hix hne
  ·rw [if_neg hji] at hj;exact h.own j e' hj hne
 ·intro e' he'
  rcases List.mem_or_eq_of_mem_set he' with h1 | h1
  ·exact h.keys e' h1
  ·rw [h1];have:=h.keys e (List.mem_of_getElem? he);exact ⟨this.1,this.2.1,this.2.2.1,hm⟩
 ·intro x hx
  obtain ⟨j,h1,h2,h3,h4⟩:=h.free x hx
  refine ⟨j,h1,h2,?_,h4⟩
  simp only [hg]
  by_cases hji:j=i
  ·subst hji
   rw [if_pos rfl]
   rw [he] at h3;cases h3
   have:m=0:=by
    by_cases h0:m=0
    ·exact h0
    ·exact absurd (h1▸(hix h0).2) (h4 _)
   subst this;rfl
  ·rw [if_neg hji];exact h3
 ·intro k hk
  have hp:=countP_put (fun e:EntD=>e.mask.testBit k) S.ents i e {e with mask:=m} he
  have hk2:=h.count k hk
  show upd S.count t c k=(bitC (S.ents.set i {e with mask:=m}) k:Int)
  unfold bitC at hk2 ⊢
  by_cases hkt:k=t
  ·subst hkt
   rw [upd_same]
   simp only at hp
   split at hp<;>split at hp<;>simp_all<;>omega
  ·rw [upd_ne _ _ hkt]
   simp only [hb k hkt] at hp
   omega
 ·intro k hk x hx
  simp only [List.length_set]
  exact had k hk x hx
theorem clr_zero {m t:Nat} (h:clrB m t≠0):m≠0:=by rintro rfl;simp [clrB] at h
theorem Inv.lose (h:Inv S) {t:Nat} (ht:t<64) (i:Nat):Inv (loseS S t i):=by
 unfold loseS
 cases he:S.ents[i]? with
 | none=>exact h
 | some e=>
   simp only
   have hk:=(h.keys e (List.mem_of_getElem? he)).2.2.2
   by_cases hb:e.mask.testBit t=true
   ·rw [if_pos hb]
    refine h.remask ht he (clrB_lt hk) (fun hne=>h.own i e he (clr_zero hne)) (fun k hkt=>?_) ?_ h.added
    ·rw [clrB_bit hk ht,decide_eq_false (Ne.symm hkt)];simp
    ·rw [clrB_bit hk ht];simp [hb]
   ·rw [if_neg hb];exact h
def gainS (S:ArS) (t i:Nat):ArS:=match S.ents[i]? with
 | some e=>{S with ents:=S.ents.set i {e with mask:=setB e.mask t},count:=upd S.count t (S.count t+1),added:=upd S.added t (S.added t++ [(i:Int)])}
 | none=>S
theorem Inv.gain (h:Inv S) {t:Nat} (ht:t<64) {i:Nat} {e:EntD} (he:S.ents[i]? =some e) (hb:e.mask.testBit t=false) (h2:2≤i) (hx:S.idx e.key=some (i:Int)):Inv (gainS S t i):=by
 unfold gainS
 rw [he]
 have hk:=(h.keys e (List.mem_of_getElem? he)).2.2.2
 refine h.remask ht he (setB_lt hk ht) (fun _=>⟨h2,hx⟩) (fun k hkt=>?_) ?_ (fun k hk' x hxx=>?_)
 ·rw [setB_bit,decide_eq_false (Ne.symm hkt)];simp
 ·rw [setB_bit];simp [hb]
 ·by_cases hkt:k=t
  ·subst hkt
   rw [upd_same] at hxx
   rcases List.mem_append.1 hxx with h1 | h1
   ·exact h.added k hk' x h1
   ·rw [List.mem_singleton] at h1
    exact ⟨i,h1,h2,(List.getElem?_eq_some_iff.1 he).1⟩
  ·rw [upd_ne _ _ hkt] at hxx
   exact h.added k hk' x hxx
theorem Inv.mark (h:Inv S) (t:Nat):Inv {S with added:=upd S.added t []}:=
 ⟨h.room,h.zero,h.part,h.full,h.cnt,h.idx,h.own,h.keys,h.nodup,h.free,h.count,fun k hk x hx=>by
  by_cases hkt:k=t
  ·subst hkt;simp [upd_same] at hx
  ·simp only [upd_ne _ _ hkt] at hx;exact h.added k hk x hx⟩
theorem Inv.quota (h:Inv S) (q:Nat→Int):Inv {S with quota:=q}:=⟨h.room,h.zero,h.part,h.full,h.cnt,h.idx,h.own,h.keys,h.nodup,h.free,h.count,h.added⟩
theorem Inv.live (h:Inv S) (q:Int):Inv {S with live:=q}:=⟨h.room,h.zero,h.part,h.full,h.cnt,h.idx,h.own,h.keys,h.nodup,h.free,h.count,h.added⟩
def TakeR (S:ArS) (i:Nat) (S1:ArS):Prop:=
 (∃fr,List.Perm ((i:Int)::fr) S.free∧S1={S with live:=S.live+1,free:=fr})∨(S.free= []∧i=S.ents.length∧S1={S with live:=S.live+1,ents:=S.ents++ [zeroE]})
def newS (S:ArS) (i:Nat) (k:KeyA) (lv va:Int):ArS:={S with ents:=S.ents.set i ⟨k,lv,va,0⟩,idx:=fun k'=>if k'=k then some (i:Int) else S.idx k',size:=S.size+1}
theorem Inv.idx_of (h:Inv S) {i:Nat} {e:EntD} (he:S.ents[i]? =some e) {k:KeyA} (hk:S.idx k=some (i:Int)):e.key=k:=by
 obtain ⟨j,e',h1,h2,h3,h4⟩:=h.idx k _ hk
 have:j=i:=by omega
 subst this
 rw [he] at h3;cases h3;exact h4
theorem Inv.made_of (h:Inv S) {i:Nat} {S1:ArS} {k:KeyA} {lv va:Int} (hE:∀j,j≠i→S1.ents[j]? =S.ents[j]?) (hi:S1.ents[i]? =some zeroE) (h2:2≤i) (hno:∀k,S.idx k≠some (i:Int)) (hin:inIdx S i=false)
 (hlen:S1.ents.length+S.free.length=S.ents.length+S1.free.length+1) (hfull:(S1.ents.length:Int)≤2+S.room) (hcn:S.size=(List.range S1.ents.length).countP (inIdx S))
 (hnd:S1.free.Nodup) (hfr:∀x∈S1.free,x∈S.free∧x≠i) (hc:∀t,bitC S1.ents t=bitC S.ents t) (hr:S1.room=S.room) (hix:S1.idx=S.idx) (hsz:S1.size=S.size) (hct:S1.count=S.count) (hmem:∀e∈S1.ents,e∈S.ents∨e=zeroE)
 (had:S1.added=S.added) (hle:S.ents.length≤S1.ents.length) (hk:k.ok) (hn:S.idx k=none) (hlv:0≤lv∧lv≤44):Inv (newS S1 i k lv va):=by
 have hil:=(List.getElem?_eq_some_iff.1 hi).1
 have hg:∀j,(S1.ents.set i ⟨k,lv,va,0⟩)[j]? =if j=i then some ⟨k,lv,va,0⟩ else S.ents[j]? :=by
  intro j
  by_cases hj:j=i
  ·subst hj;rw [if_pos rfl];exact set_some hi
  ·rw [if_neg hj,List.getElem?_set_ne (Ne.symm hj)];exact hE j hj
 refine ⟨by show 0≤S1.room∧S1.room≤200000;rw [hr];exact h.room,?_,?_,?_,?_,?_,?_,?_,hnd,?_,?_,?_⟩
 ·simp only [newS,hg]
  rw [if_neg (by omega),if_neg (by omega)];exact h.zero
 ·simp only [newS,List.length_set]
  have:=h.part
  rw [hsz];omega
 ·simp only [newS,List.length_set,hr];exact hfull
 ·show S1.size+1=(List.range (S1.ents.set i ⟨k,lv,va,0⟩).length).countP (inIdx (newS S1 i k lv va))
  rw [List.length_set,hsz,hcn]
  show _=(List.range S1.ents.length).countP (inIdx (newS S1 i k lv va))
  symm
  refine countP_flip (i:=i) hil hin ?_ fun j hj hne=>?_
  ·rw [inIdx_eq (S:=newS S1 i k lv va) (e:=⟨k,lv,va,0⟩) ((hg i).trans (if_pos rfl))]
   simp [newS]
  ·refine (inIdx_same (by simp only [newS,hg];rw [if_neg hne]) fun e hj=>?_).symm
   simp only [newS,hix]
   by_cases hek:e.key=k
   ·rw [if_pos hek,hek,hn]
    have:¬((i:Int)=(j:Int)):=by omega
    simp [this]
   ·rw [if_neg hek]
 ·intro k' id hk'
  simp only [newS,hix] at hk'
  simp only [newS,hg]
  by_cases hkk:k'=k
  ·rw [if_pos hkk] at hk';cases hk'
   exact ⟨i,_,rfl,h2,if_pos rfl,hkk.symm⟩
  ·rw [if_neg hkk] at hk'
   obtain ⟨j,e',h1,h3,h4,h5⟩:=h.idx k' id hk'
   have hji:j≠i:=by rintro rfl;exact hno k' (h1▸hk')
   exact ⟨j,e',h1,h3,by rw [if_neg hji];exact h4,h5⟩
 ·intro j e' hj hne
  simp only [newS,hg] at hj
  simp only [newS,hix]
  by_cases hji:j=i
  ·rw [if_pos hji] at hj;cases hj;exact absurd rfl hne
  ·rw [if_neg hji] at hj
   obtain ⟨h3,h4⟩:=h.own j e' hj hne
   refine ⟨h3,?_⟩
   have:e'.key≠k:=by rintro rfl;rw [hn] at h4;cases h4
   rw [if_neg this];exact h4
 ·intro e' he'
  rcases List.mem_or_eq_of_mem_set he' with h1 | h1
  ·rcases hmem e' h1 with h1 | h1
   ·exact h.keys e' h1
   ·rw [h1];exact zero_ok
  ·rw [h1];exact ⟨hk,hlv.1,hlv.2,Nat.zero_lt_succ _⟩
 ·intro x hx
  obtain ⟨hx1,hx2⟩:=hfr x hx
  obtain ⟨j,h1,h3,h4,h5⟩:=h.free x hx1
  have hji:j≠i:=by rintro rfl;exact hx2 h1
  refine ⟨j,h1,h3,by simp only [newS,hg];rw [if_neg hji];exact h4,fun k'=>?_⟩
  simp only [newS,hix]
  by_cases hkk:k'=k
  ·rw [if_pos hkk];intro e;have:=Option.some.inj e;exact hx2 this.symm
  ·rw [if_neg hkk];exact h5 k'
 ·intro t ht
  have hp:=countP_put (fun e:EntD=>e.mask.testBit t) S1.ents i zeroE ⟨k,lv,va,0⟩ hi
  have hc1:=hc t
  have hc2:=h.count t ht
  simp only [newS,hct]
  unfold bitC at hc1 hc2 ⊢
  simp [zeroE] at hp
  rw [hp,hc1];exact hc2
 ·intro t ht x hx
  simp only [newS,had] at hx
  obtain ⟨j,h1,h3,h4⟩:=h.added t ht x hx
  exact ⟨j,h1,h3,by simp only [newS,List.length_set];omega⟩
theorem Inv.made (h:Inv S) {i:Nat} {S1:ArS} (ht:TakeR S i S1) {k:KeyA} {lv va:Int} (hk:k.ok) (hn:S.idx k=none) (hlv:0≤lv∧lv≤44) (hr:(S.size:Int)<S.room):
 Inv (newS S1 i k lv va)∧S1.ents[i]? =some zeroE∧2≤i:=by
 rcases ht with ⟨fr,hp,rfl⟩ | ⟨hf,hi,rfl⟩
 ·have hx:(i:Int)∈S.free:=hp.subset (List.mem_cons_self ..)
  obtain ⟨j,h1,h2,h3,h4⟩:=h.free _ hx
  have:j=i:=by omega
  subst this
  have hnd:=hp.nodup_iff.2 h.nodup
  rw [List.nodup_cons] at hnd
  have hlen:=hp.length_eq
  refine ⟨h.made_of (fun _ _=>rfl) h3 h2 h4 ?_ ?_ h.full h.cnt hnd.2 (fun x hx=>⟨hp.subset (List.mem_cons_of_mem _ hx),fun e=>hnd.1 (e▸hx)⟩) (fun _=>rfl) rfl rfl rfl rfl (fun e he=> .inl he) rfl (Nat.le_refl _) hk hn hlv,h3,h2⟩
  ·unfold inIdx;rw [h3];simp [h4]
  ·simp only [List.length_cons] at hlen ⊢;omega
 ·subst hi
  have hno:∀k,S.idx k≠some (S.ents.length:Int):=fun k e=>by
   obtain ⟨j,e',h1,h2,h3,h4⟩:=h.idx _ _ e
   have:=(List.getElem?_eq_some_iff.1 h3).1
   omega
  have hz:(S.ents++ [zeroE])[S.ents.length]? =some zeroE:=by simp
  have hin:inIdx S S.ents.length=false:=by unfold inIdx;simp
  refine ⟨h.made_of (fun j hj=>?_) hz h.len hno hin ?_ ?_ ?_ (by rw [hf];exact List.nodup_nil) (fun x hx=>by simp only [hf] at hx;cases hx) (fun t=>?_) rfl rfl rfl rfl (fun e he=>?_) rfl (by simp) hk hn hlv,hz,h.len⟩
  ·by_cases hl:j<S.ents.length
   ·rw [List.getElem?_append_left hl]
   ·rw [List.getElem?_eq_none (by simp;omega),List.getElem?_eq_none (by omega)]
  ·simp [hf]
  ·have:=h.part;rw [hf] at this;simp at this;simp;omega
  ·simp only [List.length_append,List.length_cons,List.length_nil]
   rw [List.range_succ,List.countP_append]
   have:=h.cnt
   simp [hin];omega
  ·unfold bitC;rw [List.countP_append];simp [zeroE]
  ·rcases List.mem_append.1 he with h1 | h1
   ·exact .inl h1
   ·exact .inr (List.mem_singleton.1 h1)
def killS (S:ArS) (i:Nat) (k:KeyA) (fr:List Int):ArS:={S with ents:=S.ents.set i zeroE,idx:=fun k'=>if k'=k then none else S.idx k',size:=S.size-1,free:=fr}
theorem Inv.kill (h:Inv S) {i:Nat} {e:EntD} (he:S.ents[i]? =some e) (h2:2≤i) (hm:e.mask=0) (hx:S.idx e.key=some (i:Int)) {fr:List Int} (hp:List.Perm fr (S.free++ [(i:Int)])):Inv (killS S i e.key fr)∧0<S.size:=by
 have hil:=(List.getElem?_eq_some_iff.1 he).1
 have hg:∀j,(S.ents.set i zeroE)[j]? =if j=i then some zeroE else S.ents[j]? :=by
  intro j
  by_cases hj:j=i
  ·subst hj;rw [if_pos rfl];exact set_some he
  ·rw [if_neg hj,List.getElem?_set_ne (Ne.symm hj)]
 have hfl:=hp.length_eq
 simp only [List.length_append,List.length_cons,List.length_nil] at hfl
 have hcount:(List.range S.ents.length).countP (inIdx S)=(List.range S.ents.length).countP (inIdx (killS S i e.key fr))+1:=by
  refine countP_flip (i:=i) hil ?_ ?_ fun j hj hne=>?_
  ·refine inIdx_no fun k'=>?_
   simp only [killS]
   by_cases hkk:k'=e.key
   ·rw [if_pos hkk];intro e2;cases e2
   ·rw [if_neg hkk];intro e2;exact hkk (h.idx_of he e2).symm
  ·rw [inIdx_eq he];simp [hx]
  ·refine inIdx_same (by simp only [killS,hg];rw [if_neg hne]) fun e' hj=>?_
   simp only [killS]
   by_cases hek:e'.key=e.key
   ·rw [if_pos hek,hek,hx]
    have:¬((i:Int)=(j:Int)):=by omega
    simp [this]
   ·rw [if_neg hek]
 have hc0:=h.cnt
 have hpos:0<S.size:=by omega
 refine ⟨⟨h.room,?_,?_,?_,?_,?_,?_,?_,?_,?_,?_,?_⟩,hpos⟩
 ·simp only [killS,hg]
  rw [if_neg (by omega),if_neg (by omega)];exact h.zero
 ·simp only [killS,List.length_set]
  have:=h.part
  omega
 ·simp only [killS,List.length_set];exact h.full
 ·show S.size-1=(List.range (S.ents.set i zeroE).length).countP _
  rw [List.length_set]
  omega
 ·intro k' id hk'
  simp only [killS] at hk'
  simp only [killS,hg]
  by_cases hkk:k'=e.key
  ·rw [if_pos hkk] at hk';cases hk'
  ·rw [if_neg hkk] at hk'
   obtain ⟨j,e',h1,h3,h4,h5⟩:=h.idx k' id hk'
   have hji:j≠i:=by rintro rfl;rw [he] at h4;cases h4;exact hkk h5.symm
   exact ⟨j,e',h1,h3,by rw [if_neg hji];exact h4,h5⟩
 ·intro j e' hj hne
  simp only [killS,hg] at hj
  simp only [killS]
  by_cases hji:j=i
  ·rw [if_pos hji] at hj;cases hj;exact absurd rfl hne
  ·rw [if_neg hji] at hj
   obtain ⟨h3,h4⟩:=h.own j e' hj hne
   refine ⟨h3,?_⟩
   have:e'.key≠e.key:=by
    intro e2
    rw [e2,hx] at h4
    have:=Option.some.inj h4;omega
   rw [if_neg this];exact h4
 ·intro e' he'
  rcases List.mem_or_eq_of_mem_set he' with h1 | h1
  ·exact h.keys e' h1
  ·rw [h1];exact zero_ok
 ·have hni:(i:Int)∉S.free:=fun hmem=>by
   obtain ⟨_,_,_,_,h5⟩:=h.free _ hmem
   exact h5 _ hx
  refine hp.nodup_iff.2 (List.nodup_append.2 ⟨h.nodup,by simp,fun a ha b hb=>?_⟩)
  rw [List.mem_singleton] at hb
  subst hb
  rintro rfl
  exact hni ha
 ·intro x hxm
  have hxm:=hp.subset hxm
  rcases List.mem_append.1 hxm with h1 | h1
  ·obtain ⟨j,h3,h4,h5,h6⟩:=h.free x h1
   have hji:j≠i:=by rintro rfl;exact h6 _ (h3▸hx)
   refine ⟨j,h3,h4,by simp only [killS,hg];rw [if_neg hji];exact h5,fun k'=>?_⟩
   simp only [killS]
   by_cases hkk:k'=e.key
   ·rw [if_pos hkk];intro e2;cases e2
   ·rw [if_neg hkk];exact h6 k'
  ·rw [List.mem_singleton] at h1
   subst h1
   refine ⟨i,rfl,h2,(hg i).trans (if_pos rfl),fun k'=>?_⟩
   simp only [killS]
   by_cases hkk:k'=e.key
   ·rw [if_pos hkk];intro e2;cases e2
   ·rw [if_neg hkk];intro e2;exact hkk (h.idx_of he e2).symm
 ·intro t ht
  have hp:=countP_put (fun e:EntD=>e.mask.testBit t) S.ents i e zeroE he
  have hc2:=h.count t ht
  simp only [killS]
  unfold bitC at hc2 ⊢
  simp [zeroE,hm] at hp
  simp only [zeroE]
  rw [hp];exact hc2
 ·intro t ht x hx
  obtain ⟨j,h1,h3,h4⟩:=h.added t ht x hx
  exact ⟨j,h1,h3,by simp only [killS,List.length_set];omega⟩
end
end Go.Proofs.YthohnjgnpapnoaaGreatDoor
namespace Go.Proofs.YthohnjgnpapnoaaGreatDoor
open Go.RowKit
inductive SwN (S:ArS):Nat→ArS→Nat→Prop
 | start:SwN S 2 S 0
 | skip {i:Nat} {Si:ArS} {n:Nat} {e:EntD}:SwN S i Si n→Si.ents[i]? =some e→¬(e.mask=0∧Si.idx e.key=some (i:Int))→SwN S (i+1) Si n
 | kill {i:Nat} {Si:ArS} {n:Nat} {e:EntD} {fr:List Int}:SwN S i Si n→Si.ents[i]? =some e→e.mask=0→Si.idx e.key=some (i:Int)→List.Perm fr (Si.free++ [(i:Int)])→SwN S (i+1) (killS Si i e.key fr) (n+1)
structure SwF (S:ArS) (i:Nat) (Si:ArS) (n:Nat):Prop where
 two:2≤i
 inv:Inv Si
 live:Si.live=S.live
 size:Si.size+n=S.size
 len:Si.ents.length=S.ents.length
 count:Si.count=S.count
 quota:Si.quota=S.quota
 added:Si.added=S.added
 room:Si.room=S.room
 clean:∀j e,j<i→Si.ents[j]? =some e→Si.idx e.key=some (j:Int)→e.mask≠0
 less:∀k id,Si.idx k=some id→S.idx k=some id
 same:∀(j:Nat) e,S.ents[j]? =some e→(e.mask≠0∨Si.idx e.key=some (j:Int))→Si.ents[j]? =some e∧Si.idx e.key=S.idx e.key
theorem SwN.facts {S:ArS} (hI:Inv S) {i:Nat} {Si:ArS} {n:Nat} (h:SwN S i Si n):SwF S i Si n:=by
 induction h with
 | start=>
   refine ⟨Nat.le_refl _,hI,rfl,rfl,rfl,rfl,rfl,rfl,rfl,fun j e hj he hx=>?_,fun _ _ h=>h,fun j e he _=>⟨he,rfl⟩⟩
   obtain ⟨k,_,h1,h2,_,_⟩:=hI.idx _ _ hx
   omega
 | @skip i Si n e h he hx ih=>
   refine ⟨by have:=ih.two;omega,ih.inv,ih.live,ih.size,ih.len,ih.count,ih.quota,ih.added,ih.room,fun j e' hj he' hx'=>?_,ih.less,ih.same⟩
   by_cases hji:j=i
   ·subst hji
    rw [he] at he';cases he'
    exact fun hm=>hx ⟨hm,hx'⟩
   ·exact ih.clean j e' (by omega) he' hx'
 | @kill i Si n e fr h he hm hx hp ih=>
   have h2:=ih.two
   obtain ⟨hk,hpos⟩:=ih.inv.kill he h2 hm hx hp
   have hg:∀j,(Si.ents.set i zeroE)[j]? =if j=i then some zeroE else Si.ents[j]? :=by
    intro j
    by_cases hj:j=i
    ·subst hj;rw [if_pos rfl];exact set_some he
    ·rw [if_neg hj,List.getElem?_set_ne (Ne.symm hj)]
   refine ⟨by omega,hk,ih.live,?_,?_,ih.count,ih.quota,ih.added,ih.room,fun j e' hj he' hx'=>?_,fun k id hkk=>?_,fun j e' he' hd=>?_⟩
   ·have:=ih.size
    show Si.size-1+(n+1)=S.size
    omega
   ·show (Si.ents.set i zeroE).length=_
    rw [List.length_set];exact ih.len
   ·simp only [killS,hg] at he' hx'
    by_cases hji:j=i
    ·rw [if_pos hji] at he';cases he'
     subst hji
     by_cases hz:zeroE.key=e.key
     ·rw [if_pos hz] at hx';cases hx'
     ·rw [if_neg hz] at hx'
      exact absurd (ih.inv.idx_of he hx').symm hz
    ·rw [if_neg hji] at he'
     by_cases hz:e'.key=e.key
     ·rw [if_pos hz] at hx';cases hx'
     ·rw [if_neg hz] at hx'
      exact ih.clean j e' (by omega) he' hx'
   ·simp only [killS] at hkk
    by_cases hz:k=e.key
    ·rw [if_pos hz] at hkk;cases hkk
    ·rw [if_neg hz] at hkk;exact ih.less k id hkk
   ·simp only [killS] at hd
    have hd2:e'.mask≠0∨Si.idx e'.key=some (j:Int):=by
     rcases hd with hd | hd
     ·exact .inl hd
     ·by_cases hz:e'.key=e.key
      ·rw [if_pos hz] at hd;cases hd
      ·rw [if_neg hz] at hd;exact .inr hd
    obtain ⟨h3,h4⟩:=ih.same j e' he' hd2
    have hji:j≠i:=by
     rintro rfl
     rw [he] at h3;cases h3
     rcases hd with hd | hd
     ·exact hd hm
     ·rw [if_pos rfl] at hd;cases hd
    simp only [killS,hg]
    rw [if_neg hji]
    refine ⟨h3,?_⟩
    by_cases hz:e'.key=e.key
    ·rcases hd with hd | hd
     ·have h5:=(ih.inv.own j e' h3 hd).2
      rw [hz,hx] at h5
      have:=Option.some.inj h5;omega
     ·rw [if_pos hz] at hd;cases hd
    ·rw [if_neg hz];exact h4
def SweepR (S S':ArS) (n:Nat):Prop:=∃S1,SwN S S.ents.length S1 n∧S'={S1 with live:=S.live-n}
theorem SweepR.inv {S S':ArS} {n:Nat} (hI:Inv S) (hl:S.live=S.size) (h:SweepR S S' n):Inv S'∧S'.live=S'.size:=by
 obtain ⟨S1,h1,rfl⟩:=h
 have hf:=h1.facts hI
 refine ⟨hf.inv.live _,?_⟩
 have:=hf.size
 show S.live-n=(S1.size:Int)
 omega
theorem range_countP {α:Type} (p:α→Bool):∀l:List α,(List.range l.length).countP (fun i=>match l[i]? with | some e=>p e | none=>false)=l.countP p
 | []=>rfl
 | a::l=>by
   rw [List.length_cons,List.range_succ_eq_map,List.countP_cons,List.countP_cons,List.countP_map,←range_countP p l]
   congr 1
theorem SweepR.swept {S S':ArS} {n:Nat} (hI:Inv S) (h:SweepR S S' n):S'.size≤S'.ents.countP (fun e=>e.mask !=0):=by
 obtain ⟨S1,h1,rfl⟩:=h
 have hf:=h1.facts hI
 show S1.size≤S1.ents.countP (fun e=>e.mask !=0)
 rw [hf.inv.cnt,←range_countP (fun e:EntD=>e.mask !=0) S1.ents]
 refine List.countP_mono_left fun i hi hx=>?_
 have hi:=List.mem_range.1 hi
 unfold inIdx at hx
 cases he:S1.ents[i]? with
 | none=>rw [he] at hx;cases hx
 | some e=>
   rw [he] at hx
   simp only
   have:=hf.clean i e (by rw [←hf.len];exact hi) he (of_decide_eq_true hx)
   simp [this]
def NotHis (S:ArS) (t:Nat) (k:KeyA):Prop:=∀(i:Nat) e,S.idx k=some (i:Int)→S.ents[i]? =some e→e.mask.testBit t=false
inductive GiveR (S:ArS) (t:Nat) (k:KeyA) (lv va:Int):Int→Int→ArS→Prop
 | has (i:Nat) (e:EntD):S.idx k=some (i:Int)→S.ents[i]? =some e→e.mask.testBit t=true→GiveR S t k lv va i 0 S
 | much:NotHis S t k→S.quota t≤S.count t→GiveR S t k lv va 0 9 S
 | joins (i:Nat) (e:EntD):S.idx k=some (i:Int)→S.ents[i]? =some e→e.mask.testBit t=false→S.count t<S.quota t→GiveR S t k lv va i 0 (gainS S t i)
 | full (S0:ArS) (n:Nat):S.idx k=none→S.count t<S.quota t→S.room≤S.live→SweepR S S0 n→S0.room≤S0.live→GiveR S t k lv va 0 5 S0
 | makes (S0 S1:ArS) (i:Nat):S.idx k=none→S.count t<S.quota t→(S.live<S.room∧S0=S∨S.room≤S.live∧∃n,SweepR S S0 n)→S0.live<S0.room→TakeR S0 i S1→GiveR S t k lv va i 0 (gainS (newS S1 i k lv va) t i)
theorem TakeR.keeps {S S1:ArS} {i:Nat} (h:TakeR S i S1):S1.live=S.live+1∧S1.size=S.size∧S1.idx=S.idx∧S1.count=S.count∧S1.quota=S.quota∧S1.added=S.added∧S1.room=S.room:=by
 rcases h with ⟨fr,_,rfl⟩ | ⟨_,_,rfl⟩<;>exact ⟨rfl,rfl,rfl,rfl,rfl,rfl,rfl⟩
theorem SweepR.gone {S S':ArS} {n:Nat} (hI:Inv S) (h:SweepR S S' n) {k:KeyA} (hk:S.idx k=none):S'.idx k=none:=by
 obtain ⟨S1,h1,rfl⟩:=h
 have hf:=h1.facts hI
 show S1.idx k=none
 cases hx:S1.idx k with
 | none=>rfl
 | some id=>rw [hf.less k id hx] at hk;cases hk
theorem GiveR.inv {S:ArS} {t:Nat} {k:KeyA} {lv va r x:Int} {S':ArS} (h:GiveR S t k lv va r x S') (ht:t<64) (hI:Inv S) (hl:S.live=S.size) (hk:k.ok) (hlv:0≤lv∧lv≤44):Inv S'∧S'.live=S'.size:=by
 cases h with
 | has=>exact ⟨hI,hl⟩
 | much=>exact ⟨hI,hl⟩
 | joins i e hx he hb hq=>
   obtain ⟨j,e',h1,h2,h3,h4⟩:=hI.idx _ _ hx
   have:j=i:=by omega
   subst this
   rw [he] at h3;cases h3
   refine ⟨hI.gain ht he hb h2 (h4▸hx),?_⟩
   unfold gainS;rw [he];exact hl
 | full S0 n hx hq hr hs hr2=>exact hs.inv hI hl
 | makes S0 S1 i hx hq hs hr ht2=>
   have h0:Inv S0∧S0.live=S0.size∧S0.idx k=none:=by
    rcases hs with ⟨_,rfl⟩ | ⟨_,n,hs⟩
    ·exact ⟨hI,hl,hx⟩
    ·exact ⟨(hs.inv hI hl).1,(hs.inv hI hl).2,hs.gone hI hx⟩
   obtain ⟨h1,h2,h3⟩:=h0
   obtain ⟨g1,g2,g3⟩:=h1.made (va:=va) ht2 hk h3 hlv (by omega)
   have he:(newS S1 i k lv va).ents[i]? =some ⟨k,lv,va,0⟩:=set_some g2
   refine ⟨g1.gain ht he (by simp) g3 (by simp [newS]),?_⟩
   obtain ⟨k1,k2,k3,_⟩:=ht2.keeps
   unfold gainS;rw [he]
   show S1.live=((S1.size+1:Nat):Int)
   rw [k1,k2];omega
end Go.Proofs.YthohnjgnpapnoaaGreatDoor
namespace Go.Proofs.YthohnjgnpapnoaaGreatDoor
open Go.RowKit
def loseL (S:ArS) (t:Nat) (l:List Int):ArS:=l.foldl (fun S x=>loseS S t x.toNat) S
theorem loseS_keeps (S:ArS) (t i:Nat):(loseS S t i).added=S.added∧(loseS S t i).ents.length=S.ents.length∧(loseS S t i).room=S.room:=by
 unfold loseS
 cases S.ents[i]? with
 | none=>exact ⟨rfl,rfl,rfl⟩
 | some e=>simp only;split<;>simp
theorem loseL_keeps (t:Nat):∀(l:List Int) (S:ArS),(loseL S t l).added=S.added∧(loseL S t l).ents.length=S.ents.length∧(loseL S t l).room=S.room
 | [],S=>⟨rfl,rfl,rfl⟩
 | x::l,S=>by
   have h1:=loseS_keeps S t x.toNat
   have h2:=loseL_keeps t l (loseS S t x.toNat)
   exact ⟨h2.1.trans h1.1,h2.2.1.trans h1.2.1,h2.2.2.trans h1.2.2⟩
theorem loseL_inv {t:Nat} (ht:t<64):∀(l:List Int) (S:ArS),Inv S→Inv (loseL S t l)
 | [],_S,h=>h
 | x::l,_S,h=>loseL_inv ht l _ (h.lose ht x.toNat)
theorem loseL_snoc (S:ArS) (t:Nat) (l:List Int) (x:Int):loseL S t (l++ [x])=loseS (loseL S t l) t x.toNat:=by unfold loseL;rw [List.foldl_append];rfl
theorem loseL_take {S:ArS} {t:Nat} {l:List Int} {i:Nat} {x:Int} (h:l[i]? =some x):loseL S t (l.take (i+1))=loseS (loseL S t (l.take i)) t x.toNat:=by
 rw [List.take_add_one,h];exact loseL_snoc ..
theorem wrap_nat' (i:Nat) (h:i<maxLen):IntKind.i64.wrap ((i:Int)+1)=(i:Int)+1:=by unfold maxLen at h;rw [IntKind.wrap_i64];omega
def undoS (S:ArS) (t:Nat):ArS:={loseL S t (S.added t) with added:=upd S.added t []}
end Go.Proofs.YthohnjgnpapnoaaGreatDoor
namespace Go.Proofs.YthohnjgnpapnoaaGreatDoor
def bitB (m:Int) (n:Nat):Bool:=m/2^n%2==1
end Go.Proofs.YthohnjgnpapnoaaGreatDoor
namespace Go.Proofs.YthohnjgnpapnoaaGreatDoor
inductive Tree where
 | dead:Tree
 | alive:Tree
 | node (a b c d:Tree):Tree
 deriving DecidableEq
def Tree.lvl:Tree→Int
 | .dead=>0
 | .alive=>0
 | .node a _ _ _=>a.lvl+1
def Tree.kid:Tree→Nat→Tree
 | .node a b c d,k=>if k=0 then a else if k=1 then b else if k=2 then c else d
 | _,_=> .dead
def gT (T:Tree) (y x:Nat):Tree:=(T.kid (y/2*2+x/2)).kid (y%2*2+x%2)
def aliveB (T:Tree):Bool:=decide (T= .alive)
def oneT (T:Tree):Int:=if T= .alive then 1 else 0
def nearT (g:Nat→Nat→Tree) (y x:Nat):Int:=
 oneT (g y x)+oneT (g y (x+1))+oneT (g y (x+2))+oneT (g (y+1) x)+oneT (g (y+1) (x+2))+oneT (g (y+2) x)+oneT (g (y+2) (x+1))+oneT (g (y+2) (x+2))
def liveT (b l:Int) (g:Nat→Nat→Tree) (y x:Nat):Tree:=if bitB (if aliveB (g (y+1) (x+1)) then l else b) (nearT g y x).toNat then .alive else .dead
def smallT (b l:Int) (g:Nat→Nat→Tree):Tree:= .node (liveT b l g 0 0) (liveT b l g 0 1) (liveT b l g 1 0) (liveT b l g 1 1)
def fourT (N:Nat→Nat→Tree) (y x:Nat):Tree:= .node (N y x) (N y (x+1)) (N (y+1) x) (N (y+1) (x+1))
def midT (T:Tree):Tree:=fourT (gT T) 1 1
def resT (b l:Int):Nat→Tree→Int→Tree
 | 0,T,_=>smallT b l (gT T)
 | n+1,T,j=>
   let N:=fun y x=>if j=((n+1:Nat):Int) then resT b l n (fourT (gT T) y x) (j-1) else midT (fourT (gT T) y x)
   fourT (fun y x=>resT b l n (fourT N y x) (if j=((n+1:Nat):Int) then j-1 else j)) 0 0
def noteV (x:Tree) (r j:Int):Tree:=resT (r/512) (r%512) (x.lvl.toNat-2) x j
end Go.Proofs.YthohnjgnpapnoaaGreatDoor
