/- arena: New. · ArenaAlone: what making, losing and sweeping do, in plain words. · quad: the trees of sets of cells, in plain words. -/
import Derived.Test.YthohnjgnpapnoaaGreatDoorR6
import Derived.Test.YthohnjgnpapnoaaGreatDoorR7
import Derived.Carry
set_option linter.unusedVariables false
set_option linter.unusedSimpArgs false
namespace Go.Proofs.YthohnjgnpapnoaaGreatDoor
open Go.RowKit
def newA (room:Int) (i:Nat):ArS:={room:=room,ents:=[zeroE,zeroE],idx:=fun _=>none,size:=0,free:=[],count:=fun _=>0,quota:=fun k=>if k<i then room else 0,added:=fun _=>[],live:=0}
theorem newA_inv {room:Int} (h:0≤room∧room≤200000) (i:Nat):Inv (newA room i) where
 room:=h
 zero:=⟨rfl,rfl⟩
 part:=rfl
 full:=by show (2:Int)≤2+room;omega
 cnt:=rfl
 idx:=fun k id hk=>by cases hk
 own:=fun j e he hm=>by
  exfalso
  rcases j with _ | _ | j
  ·have:=Option.some.inj he;subst this;exact hm rfl
  ·have:=Option.some.inj he;subst this;exact hm rfl
  ·simp [newA] at he
 keys:=fun e he=>by
  have:e=zeroE:=by
   simp [newA] at he;exact he
  subst this;exact zero_ok
 nodup:=List.nodup_nil
 free:=fun x hx=>by cases hx
 count:=fun t _=>by simp [newA,bitC,zeroE]
 added:=fun t _ x hx=>by cases hx
theorem mk_list (W:World):(Instr.makeSlice 92 (.int .i64 2) (.int .i64 2)).run Tryz.prog W= .ok (.slice (some ⟨W.heap.size,0,none⟩) 2 2) (W.alloc (.cells #[.int .i64 0,.int .i64 0,.int .i64 0,.int .i64 0,.int .i64 0,.int .i64 0,.int .i64 0,.int .u64 0,.int .i64 0,.int .i64 0,.int .i64 0,.int .i64 0,.int .i64 0,.int .i64 0,.int .i64 0,.int .u64 0] EN)):=by kernel_rfl
def zC (j:Nat):Value:=if j=0 then .int .i64 0 else if j=1 then .slice none 0 0 else if j=2 then .map none else if j=3 then .slice none 0 0 else if j<68 then .int .i64 0 else if j<132 then .int .i64 0 else if j<196 then .slice none 0 0 else .int .i64 0
theorem zc_arena:Tryz.zeroCells98=Array.ofFn (n:=197) fun i=>zC i:=by kernel_rfl
def newR (b m:Nat):ArR:=⟨.slice (some ⟨b,0,none⟩) 2 2,m,nilV,fun _=>nilV⟩
theorem new_cells (room:Int) (b m:Nat):((Tryz.zeroCells98.setIfInBounds 0 (.int .i64 room)).setIfInBounds 1 (.slice (some ⟨b,0,none⟩) 2 2)).setIfInBounds 2 (.map (some m))=arCells (newR b m) (newA room 0):=by
 rw [zc_arena]
 apply Array.ext (by simp [arCells])
 intro j hj hj'
 have hj197:j<197:=by simpa [arCells] using hj'
 by_cases h0:j=0
 ·subst h0
  rw [Array.getElem_setIfInBounds_ne _ (by decide),Array.getElem_setIfInBounds_ne _ (by decide),Array.getElem_setIfInBounds_self]
  all_goals simp [arCells,arC,newA]
 ·by_cases h1:j=1
  ·subst h1
   rw [Array.getElem_setIfInBounds_ne _ (by decide),Array.getElem_setIfInBounds_self]
   all_goals simp [arCells,arC,newR]
  ·by_cases h2:j=2
   ·subst h2
    rw [Array.getElem_setIfInBounds_self]
    all_goals simp [arCells,arC,newR]
   ·rw [Array.getElem_setIfInBounds_ne (by simp;omega) (Ne.symm h2),Array.getElem_setIfInBounds_ne (by simp;omega) (Ne.symm h1),Array.getElem_setIfInBounds_ne (by simp;omega) (Ne.symm h0)]
    simp only [arCells,Array.getElem_ofFn,zC,arC,newA,newR,nilV]
    simp only [h0,h1,h2,if_false]
    by_cases h3:j=3
    ·simp only [h3,if_true]
    ·simp only [h3,if_false]
     by_cases h4:j<68
     ·simp only [h4,if_true]
     ·simp only [h4,if_false]
      have:¬(j-68<0):=by omega
      simp only [this,if_false]
theorem new_arm (w:World) (room:Int):ArM (((w.alloc (.cells #[.int .i64 0,.int .i64 0,.int .i64 0,.int .i64 0,.int .i64 0,.int .i64 0,.int .i64 0,.int .u64 0,.int .i64 0,.int .i64 0,.int .i64 0,.int .i64 0,.int .i64 0,.int .i64 0,.int .i64 0,.int .u64 0] EN)).alloc (.map #[] 0)).alloc (.cells (((Tryz.zeroCells98.setIfInBounds 0 (.int .i64 room)).setIfInBounds 1 (.slice (some ⟨w.heap.size,0,none⟩) 2 2)).setIfInBounds 2 (.map (some (w.heap.size+1)))) AR)) (w.heap.size+1+1) (newR w.heap.size (w.heap.size+1)) (newA room 0):=by
 rw [new_cells]
 generalize hw1:w.alloc (.cells #[.int .i64 0,.int .i64 0,.int .i64 0,.int .i64 0,.int .i64 0,.int .i64 0,.int .i64 0,.int .u64 0,.int .i64 0,.int .i64 0,.int .i64 0,.int .i64 0,.int .i64 0,.int .i64 0,.int .i64 0,.int .u64 0] EN)=w1
 have hs1:w1.heap.size=w.heap.size+1:=by subst hw1;simp
 have hb1:Blk w1 w.heap.size EN #[.int .i64 0,.int .i64 0,.int .i64 0,.int .i64 0,.int .i64 0,.int .i64 0,.int .i64 0,.int .u64 0,.int .i64 0,.int .i64 0,.int .i64 0,.int .i64 0,.int .i64 0,.int .i64 0,.int .i64 0,.int .u64 0]:=by subst hw1;exact Blk.new w _ _
 generalize hw2:w1.alloc (.map #[] 0)=w2
 have hs2:w2.heap.size=w.heap.size+1+1:=by subst hw2;simp [hs1]
 have hb2:Blk w2 w.heap.size EN #[.int .i64 0,.int .i64 0,.int .i64 0,.int .i64 0,.int .i64 0,.int .i64 0,.int .i64 0,.int .u64 0,.int .i64 0,.int .i64 0,.int .i64 0,.int .i64 0,.int .i64 0,.int .i64 0,.int .i64 0,.int .u64 0]:=by subst hw2;exact hb1.alloc _
 have hm2:MapK w2 (w.heap.size+1) 0 (fun _=>none):=by subst hw2;rw [←hs1];exact MapK.made w1
 have hnone:∀b,sblk nilV≠some b:=fun b h=>by simp [nilV,sblk] at h
 refine ⟨?_,?_,?_,Sl.nil _ _ _,fun t _=>Sl.nil _ _ _,fun t _ b hb=>absurd hb (hnone b),fun t t' _ _ _ b hb=>absurd hb (hnone b),?_⟩
 ·have:=Blk.new w2 AR (arCells (newR w.heap.size (w.heap.size+1)) (newA room 0))
  rw [hs2] at this;exact this
 ·have hsl:Sl w2 EN 8 (.slice (some ⟨w.heap.size,0,none⟩) 2 2) 2 (entsV [zeroE,zeroE]):=by
   refine ⟨rfl,some ⟨w.heap.size,0,none⟩,2,rfl,Nat.le_refl _,by unfold maxLen;omega,(fun h=>nomatch h),fun a ha=>?_⟩
   injection ha with ha;subst ha
   exact ⟨_,rfl,hb2,Nat.le_refl 16,rfl⟩
  exact hsl.alloc _
 ·exact hm2.of_block (Below.heap_alloc w2 _ _ (by omega))
 ·intro e he
  have:e=zeroE:=by simp [newA] at he;exact he
  subst this;exact zero_ok.2.2.2
def NewPost (w:World) (room:Int) (e:Ending) (w':World):Prop:=
 ∃(p:Nat) (R:ArR),e= .returned (.tuple #[.pointer (some ⟨p,0,none⟩),.int .i64 0])∧ArM w' p R (newA room 64)∧Below w.heap.size w w'∧∀b,Own p R b→w.heap.size≤b
set_option maxRecDepth 100000 in
set_option maxHeartbeats 3200000 in
theorem new_any (w:World) (room:Int) (h:0≤room∧room≤200000):
 Calls Tryz.prog 57 #[.int .i64 room] w (NewPost w room):=by
 have H:=Lib.hid h
 have h1:¬room<0:=by omega
 have h2:¬200000<room:=by omega
 clear h
 have hmm:=@run_makeMap Tryz.prog
 have hmk:=mk_list
 go_enter Tryz.func57,Tryz.ntmps57
 go_wp2_with fail
 have HA:=Lib.hid (new_arm w room)
 have HBL:Hid (Below w.heap.size w (((w.alloc (.cells #[.int .i64 0,.int .i64 0,.int .i64 0,.int .i64 0,.int .i64 0,.int .i64 0,.int .i64 0,.int .u64 0,.int .i64 0,.int .i64 0,.int .i64 0,.int .i64 0,.int .i64 0,.int .i64 0,.int .i64 0,.int .u64 0] EN)).alloc (.map #[] 0)).alloc (.cells (((Tryz.zeroCells98.setIfInBounds 0 (.int .i64 room)).setIfInBounds 1 (.slice (some ⟨w.heap.size,0,none⟩) 2 2)).setIfInBounds 2 (.map (some (w.heap.size+1)))) AR))):=
  (((Below.refl w.heap.size w).alloc (Nat.le_refl _) _).alloc (by simp) _).alloc (by simp;omega) _
 have HOW:Hid (∀b,Own (w.heap.size+1+1) (newR w.heap.size (w.heap.size+1)) b→w.heap.size≤b):=by
  show ∀b,Own (w.heap.size+1+1) (newR w.heap.size (w.heap.size+1)) b→w.heap.size≤b
  intro b hb
  rcases hb with h | h | h | h | ⟨t,_,h⟩
  ·omega
  ·rw [h];show w.heap.size≤w.heap.size+1;omega
  ·have:=Option.some.inj h;show w.heap.size≤b;rw [←this];exact Nat.le_refl _
  ·simp [newR,nilV,sblk] at h
  ·simp [newR,nilV,sblk] at h
 change Code.wp _ _ _ _ (((w.alloc (.cells #[.int .i64 0,.int .i64 0,.int .i64 0,.int .i64 0,.int .i64 0,.int .i64 0,.int .i64 0,.int .u64 0,.int .i64 0,.int .i64 0,.int .i64 0,.int .i64 0,.int .i64 0,.int .i64 0,.int .i64 0,.int .u64 0] EN)).alloc (.map #[] 0)).alloc (.cells (((Tryz.zeroCells98.setIfInBounds 0 (.int .i64 room)).setIfInBounds 1 (.slice (some ⟨w.heap.size,0,none⟩) 2 2)).setIfInBounds 2 (.map (some (w.heap.size+1)))) AR))
 generalize World.alloc _ _=w2 at HA HBL ⊢
 generalize newR w.heap.size (w.heap.size+1)=R at HA HOW
 clear hmm hmk
 go_loopw [17] (fun iv wx=>∃i:Nat,iv= .int .i64 i∧i≤64∧ArM wx (w.heap.size+1+1) R (newA room i)∧Below w.heap.size w wx) (fun iv _=>64-(intOf iv).toNat)
 case atStart=>exact ⟨0,rfl,Nat.zero_le _,HA.out,HBL.out⟩
 case round=>
  obtain ⟨i,rfl,hi,hA,hB⟩:=hrel
  by_cases hi4:i<64
  ·have c0:=hA.cQuota hi4
   have f0:=hA.f (68+i)
   have hlt:(i:Int)<64:=by omega
   have hwi:=wrap_nat' i (by unfold maxLen;omega)
   have HA2:Hid (ArM (wr.setCell ⟨w.heap.size+1+1,68+i,none⟩ (.int .i64 room)) (w.heap.size+1+1) R (newA room (i+1))):=by
    have:=hA.put (arCells_quota R (newA room i) hi4 room) rfl rfl rfl rfl rfl
    have e:({newA room i with quota:=upd (newA room i).quota i room}:ArS)=newA room (i+1):=by
     have hq:upd (newA room i).quota i room=fun k=>if k<i+1 then room else 0:=by
      funext k
      show upd (fun k=>if k<i then room else 0) i room k=_
      unfold upd
      by_cases hk:k=i
      ·subst hk;simp
      ·simp only [hk,if_false]
       by_cases hk2:k<i
       ·simp [hk2];omega
       ·simp [hk2];omega
     rw [hq];rfl
    rw [e] at this
    exact this
   have HB2:=Lib.hid (hB.setCell (p:=⟨w.heap.size+1+1,68+i,none⟩) (by show w.heap.size≤w.heap.size+1+1;omega) (.int .i64 room))
   have HI4:=Lib.hid hi4
   clear hA hB hi hi4
   go_wp2_with fail
   go_roundw
   case rel=>exact ⟨i+1,by go_num,HI4.out,HA2.out,HB2.out⟩
   case measure=>simp [intOf];have:=HI4.out;omega
  ·have hi5:i=64:=by omega
   subst hi5
   have HA2:=Lib.hid hA
   have HB2:=Lib.hid hB
   clear hA hB hi hi4
   go_wp2_with fail
   go_returns
   exact ⟨_,R,rfl,HA2.out,HB2.out,HOW.out⟩
end Go.Proofs.YthohnjgnpapnoaaGreatDoor
namespace Go.Proofs.YthohnjgnpapnoaaGreatDoor
open Go.RowKit
def ValT (S:ArS) (va:Int):Thing→Prop
 | .note x r j=>Den S va (noteV x r j)
 | .sq .. =>True
section
variable {S S' : ArS} {A : Nat → Abs}
theorem Tree.lvl_pos:∀x:Tree,0≤x.lvl
 | .dead=>Int.le_refl _
 | .alive=>Int.le_refl _
 | .node a _ _ _=>by have:=Tree.lvl_pos a;simp only [Tree.lvl];omega
theorem Rel.make (h:Rel S A) {S1:ArS} {i:Nat} {k:KeyA} {lv va:Int} {x:Thing} (ht2:TakeR S i S1) (hk:k.ok) (hlv:0≤lv∧lv≤44) (hn:S.idx k=none) (hr:S.live<S.room) (hx:KeyT S k lv x) (hv:ValT S va x):
 Rel (newS S1 i k lv va) A∧(newS S1 i k lv va).ents[i]? =some ⟨k,lv,va,0⟩∧(newS S1 i k lv va).idx k=some (i:Int)∧DenT (newS S1 i k lv va) i x∧Stays (fun _=>True) S (newS S1 i k lv va):=by
 obtain ⟨g1,g2,g3⟩:=h.inv.made (va:=va) ht2 hk hn hlv (by have:=h.live;omega)
 obtain ⟨k1,k2,k3,k4,k5,k6,k7⟩:=ht2.keeps
 have hE:∀j,j≠i→S1.ents[j]? =S.ents[j]? :=by
  intro j hj
  rcases ht2 with ⟨fr,hp,rfl⟩ | ⟨hf,hi,rfl⟩
  ·rfl
  ·show (S.ents++ [zeroE])[j]? =_
   by_cases hl:j<S.ents.length
   ·rw [List.getElem?_append_left hl]
   ·rw [List.getElem?_eq_none (by simp;omega),List.getElem?_eq_none (by omega)]
 have hno:∀k,S.idx k≠some (i:Int):=by
  intro k' e
  rcases ht2 with ⟨fr,hp,rfl⟩ | ⟨hf,hi,rfl⟩
  ·obtain ⟨j,h1,_,_,h4⟩:=h.inv.free (i:Int) (hp.subset (List.mem_cons_self ..))
   exact h4 k' e
  ·obtain ⟨j,e',h1,_,h3,_⟩:=h.inv.idx _ _ e
   have:=(List.getElem?_eq_some_iff.1 h3).1
   omega
 have hg:∀j,(newS S1 i k lv va).ents[j]? =if j=i then some ⟨k,lv,va,0⟩ else S.ents[j]? :=by
  intro j
  by_cases hj:j=i
  ·subst hj;rw [if_pos rfl];exact set_some g2
  ·rw [if_neg hj]
   show (S1.ents.set i _)[j]? =_
   rw [List.getElem?_set_ne (Ne.symm hj)];exact hE j hj
 have hix:∀k',(newS S1 i k lv va).idx k'=if k'=k then some (i:Int) else S.idx k':=fun k'=>by
  show (if k'=k then some (i:Int) else S1.idx k')=_
  rw [k3]
 have hst:Stays (fun _=>True) S (newS S1 i k lv va):=fun j e he hx _=>by
  have hj:j≠i:=by rintro rfl;exact hno _ hx
  have hkk:e.key≠k:=by intro e2;rw [e2,hn] at hx;cases hx
  exact ⟨e,by rw [hg,if_neg hj];exact he,rfl,rfl,rfl,by rw [hix,if_neg hkk];exact hx⟩
 have hei:(newS S1 i k lv va).ents[i]? =some ⟨k,lv,va,0⟩:=(hg i).trans (if_pos rfl)
 have hxi:(newS S1 i k lv va).idx k=some (i:Int):=(hix k).trans (if_pos rfl)
 have hd:DenT (newS S1 i k lv va) i x:=by
  cases x with
  | sq a b c d=>
    obtain ⟨q1,q2,q3,q4,q5,q6⟩:=hx
    simp only [DenT,Den]
    exact ⟨i,_,rfl,hei,hxi,q1,q2,Den.stays hst q3,Den.stays hst q4,Den.stays hst q5,Den.stays hst q6⟩
  | note y r j=>
    obtain ⟨q1,q2,q3,q4,q5⟩:=hx
    exact ⟨_,hei,hxi,q1,q2,q3,q4,Den.stays hst q5,Den.stays hst hv⟩
 refine ⟨⟨g1,?_,fun j e he hje=>?_,fun u hu y=>?_,fun u hu id hid=>?_,fun u hu y hy=>?_,h.ok⟩,hei,hxi,hd,hst⟩
 ·show S1.live=((S1.size+1:Nat):Int)
  rw [k1,k2,h.live];omega
 ·rw [hg] at he
  by_cases hj:j=i
  ·subst hj
   rw [if_pos rfl] at he;cases he
   exact ⟨x,hd⟩
  ·rw [if_neg hj] at he
   rw [hix] at hje
   have hkk:e.key≠k:=by
    intro e2
    rw [if_pos e2] at hje
    have:=Option.some.inj hje;omega
   rw [if_neg hkk] at hje
   obtain ⟨y,hy⟩:=h.good j e he hje
   exact ⟨y,DenT.stays hst hy⟩
 ·rw [h.own u hu y]
  constructor
  ·rintro ⟨j,e,q1,q2,q3⟩
   have hj:j≠i:=by rintro rfl;exact hno _ (h.inv.own j e q1 (testBit_ne q2)).2
   exact ⟨j,e,by rw [hg,if_neg hj];exact q1,q2,DenT.stays hst q3⟩
  ·rintro ⟨j,e,q1,q2,q3⟩
   rw [hg] at q1
   by_cases hj:j=i
   ·rw [if_pos hj] at q1;cases q1
    simp at q2
   ·rw [if_neg hj] at q1
    obtain ⟨z,hz⟩:=h.good j e q1 (h.inv.own j e q1 (testBit_ne q2)).2
    have:=DenT.fn g1 q3 (DenT.stays hst hz)
    subst this
    exact ⟨j,e,q1,q2,hz⟩
 ·have hid:id∈S1.added u:=hid
  rw [k6] at hid
  obtain ⟨j,y,q1,q2,q3⟩:=h.add1 u hu id hid
  exact ⟨j,y,q1,DenT.stays hst q2,q3⟩
 ·show ∃j:Nat,(j:Int)∈S1.added u∧_
  rw [k6]
  obtain ⟨j,q1,q2⟩:=h.add2 u hu y hy
  exact ⟨j,q1,DenT.stays hst q2⟩
theorem Rel.give (h:Rel S A) {t:Nat} (ht:t<64) {k:KeyA} {lv va r c:Int} {x:Thing} (hk:k.ok) (hlv:0≤lv∧lv≤44) (hroom:S.live<S.room) (hx:KeyT S k lv x) (hv:ValT S va x) (hkid:kidsIn (A t).have_ x) (hg:GiveR S t k lv va r c S'):
 c=(aGive (A t) (S.quota t) x).1∧Rel S' (upd A t (aGive (A t) (S.quota t) x).2)∧Stays (fun _=>True) S S'∧(c=0→∃i:Nat,r=i∧DenT S' i x)∧S'.quota=S.quota∧S'.room=S.room∧S'.live≤S.live+1:=by
 have hupd:∀B:Abs,B=A t→upd A t B=A:=fun B e=>by
  funext u
  by_cases hu:u=t
  ·subst hu;rw [upd_same,e]
  ·rw [upd_ne _ _ hu]
 have hsr:Stays (fun _=>True) S S:=fun i e he hx _=>⟨e,he,rfl,rfl,rfl,hx⟩
 have hnone:S.idx k=none→x∉(A t).have_:=fun hn hm=>by
  obtain ⟨j,e,q1,q2,q3⟩:=(h.own t ht x).1 hm
  obtain ⟨e',q4,q5,q6⟩:=hx.key q3
  rw [hn] at q6;cases q6
 have hdn:∀{i:Nat} {e:EntD},S.idx k=some (i:Int)→S.ents[i]? =some e→e.key=k∧DenT S i x:=fun {i e} hi he=>by
  have hek:=h.inv.idx_of he hi
  obtain ⟨y,hy⟩:=h.good i e he (hek▸hi)
  have:=KeyT.of h.inv he hek hx hy
  subst this
  exact ⟨hek,hy⟩
 cases hg with
 | has i e hi he hb=>
   obtain ⟨hek,hd⟩:=hdn hi he
   have hm:x∈(A t).have_:=(h.own t ht x).2 ⟨i,e,he,hb,hd⟩
   have ha:aGive (A t) (S.quota t) x=(0,A t):=by unfold aGive;rw [if_pos hm]
   rw [ha]
   exact ⟨rfl,by rw [hupd _ rfl];exact h,hsr,fun _=>⟨i,rfl,hd⟩,rfl,rfl,by omega⟩
 | much hno hq=>
   have hm:x∉(A t).have_:=fun hm=>by
    obtain ⟨j,e,q1,q2,q3⟩:=(h.own t ht x).1 hm
    obtain ⟨e',q4,q5,q6⟩:=hx.key q3
    rw [q1] at q4;cases q4
    rw [hno j e q6 q1] at q2;cases q2
   rw [h.count ht] at hq
   have ha:aGive (A t) (S.quota t) x=(9,A t):=by unfold aGive;rw [if_neg hm,if_pos hq]
   rw [ha]
   exact ⟨rfl,by rw [hupd _ rfl];exact h,hsr,(fun e=>by cases e),rfl,rfl,by omega⟩
 | joins i e hi he hb hq=>
   obtain ⟨hek,hd⟩:=hdn hi he
   obtain ⟨hno,tw,hrel⟩:=h.gain ht he hb (hek▸hi) hd hkid
   rw [h.count ht] at hq
   have ha:aGive (A t) (S.quota t) x=(0,⟨(A t).have_++ [x],(A t).added++ [x]⟩):=by unfold aGive;rw [if_neg hno,if_neg (by omega)]
   rw [ha]
   refine ⟨rfl,hrel,tw.stays,fun _=>⟨i,rfl,tw.denT.2 hd⟩,?_,?_,?_⟩
   ·rw [gain_in he]
   ·rw [gain_in he]
   ·rw [gain_in he];show S.live≤S.live+1;omega
 | full S0 n hn hq hr=>omega
 | makes S0 S1 i hn hq hs hr ht2=>
   rcases hs with ⟨_,rfl⟩ | ⟨hr2,_⟩
   ·obtain ⟨hrel,he,hi,hd,hst⟩:=h.make (va:=va) ht2 hk hlv hn hr hx hv
    obtain ⟨hno,tw,hrel2⟩:=hrel.gain ht he (by simp) hi hd hkid
    obtain ⟨k1,k2,k3,k4,k5,k6,k7⟩:=ht2.keeps
    rw [h.count ht] at hq
    have ha:aGive (A t) (S0.quota t) x=(0,⟨(A t).have_++ [x],(A t).added++ [x]⟩):=by unfold aGive;rw [if_neg hno,if_neg (by omega)]
    rw [ha]
    refine ⟨rfl,hrel2,fun j e h1 h2 h3=>?_,fun _=>⟨i,rfl,tw.denT.2 hd⟩,?_,?_,?_⟩
    ·obtain ⟨e1,p1,p2,p3,p4,p5⟩:=hst j e h1 h2 trivial
     obtain ⟨e2,p6,p7,p8,p9,p10⟩:=tw.stays j e1 p1 (by rw [p2];exact p5) trivial
     exact ⟨e2,p6,p7.trans p2,p8.trans p3,p9.trans p4,by rw [←p2];exact p10⟩
    ·rw [gain_in he];exact k5
    ·rw [gain_in he];exact k7
    ·rw [gain_in he];show S1.live≤_;omega
   ·omega
structure LoseF (S S':ArS) (t:Nat) (L:List Int):Prop where
 twin:Twin S S'
 bit:∀(j:Nat) e e',S.ents[j]? =some e→S'.ents[j]? =some e'→∀u,e'.mask.testBit u=(e.mask.testBit u&& !(decide (u=t)&&decide ((j:Int)∈L)))
theorem loseS_f (hI:Inv S) {t:Nat} (ht:t<64) (i:Nat):LoseF S (loseS S t i) t [(i:Int)]:=by
 unfold loseS
 have same:∀e,S.ents[i]? =some e→e.mask.testBit t=false→LoseF S S t [(i:Int)]:=fun e he hb=>
  ⟨⟨rfl,fun j e he=>⟨e,he,rfl,rfl,rfl⟩,fun j e he=>⟨e,he,rfl,rfl,rfl⟩⟩,fun j e1 e2 h1 h2 u=>by
   rw [h1] at h2;cases h2
   by_cases hu:u=t
   ·subst hu
    by_cases hj:j=i
    ·subst hj;rw [he] at h1;cases h1;rw [hb];rfl
    ·have:¬((j:Int)=(i:Int)):=by omega
     simp [this]
   ·simp [hu]⟩
 cases he:S.ents[i]? with
 | none=>
   simp only
   refine ⟨⟨rfl,fun j e he=>⟨e,he,rfl,rfl,rfl⟩,fun j e he=>⟨e,he,rfl,rfl,rfl⟩⟩,fun j e1 e2 h1 h2 u=>?_⟩
   rw [h1] at h2;cases h2
   have hj:j≠i:=by rintro rfl;rw [he] at h1;cases h1
   have:¬((j:Int)=(i:Int)):=by omega
   simp [this]
 | some e=>
   simp only
   have hk:=(h_keys hI he)
   by_cases hb:e.mask.testBit t=true
   ·rw [if_pos hb]
    have tw:Twin S {S with ents:=S.ents.set i {e with mask:=clrB e.mask t},count:=upd S.count t (S.count t-1)}:=Twin.remask he _ _ S.added
    refine ⟨tw,fun j e1 e2 h1 h2 u=>?_⟩
    have h2:(S.ents.set i {e with mask:=clrB e.mask t})[j]? =some e2:=h2
    by_cases hj:j=i
    ·subst hj
     rw [set_some he] at h2
     rw [he] at h1;cases h1
     cases h2
     show (clrB e.mask t).testBit u=_
     rw [clrB_bit hk ht]
     by_cases hu:u=t
     ·subst hu;simp
     ·have:¬t=u:=fun e=>hu e.symm
      simp [hu,this]
    ·rw [List.getElem?_set_ne (Ne.symm hj),h1] at h2;cases h2
     have:¬((j:Int)=(i:Int)):=by omega
     simp [this]
   ·rw [if_neg hb];exact same e he (by simpa using hb)
where h_keys {S:ArS} (hI:Inv S) {i:Nat} {e:EntD} (he:S.ents[i]? =some e):e.mask<18446744073709551616:=(hI.keys e (List.mem_of_getElem? he)).2.2.2
theorem loseL_f {t:Nat} (ht:t<64):∀(L:List Int) (S:ArS),Inv S→(∀x∈L,∃i:Nat,x=i)→LoseF S (loseL S t L) t L
 | [],S,_,_=>⟨⟨rfl,fun j e he=>⟨e,he,rfl,rfl,rfl⟩,fun j e he=>⟨e,he,rfl,rfl,rfl⟩⟩,fun j e1 e2 h1 h2 u=>by
    have h2:S.ents[j]? =some e2:=h2
    rw [h1] at h2;cases h2;simp⟩
 | x::L,S,hI,hL=>by
   obtain ⟨i,rfl⟩:=hL x (List.mem_cons_self ..)
   have h1:=loseS_f hI ht i
   have h2:=loseL_f ht L (loseS S t i) (hI.lose ht i) fun y hy=>hL y (List.mem_cons_of_mem _ hy)
   have e:loseL S t ((i:Int)::L)=loseL (loseS S t i) t L:=by
    show loseL (loseS S t (i:Int).toNat) t L=_
    rw [Int.toNat_natCast]
   rw [e]
   refine ⟨⟨h2.twin.idx.trans h1.twin.idx,fun j e he=>?_,fun j e he=>?_⟩,fun j e1 e3 g1 g3 u=>?_⟩
   ·obtain ⟨e1,p1,p2,p3,p4⟩:=h1.twin.ents j e he
    obtain ⟨e2,q1,q2,q3,q4⟩:=h2.twin.ents j e1 p1
    exact ⟨e2,q1,q2.trans p2,q3.trans p3,q4.trans p4⟩
   ·obtain ⟨e1,p1,p2,p3,p4⟩:=h2.twin.back j e he
    obtain ⟨e2,q1,q2,q3,q4⟩:=h1.twin.back j e1 p1
    exact ⟨e2,q1,p2.trans q2,p3.trans q3,p4.trans q4⟩
   ·obtain ⟨e2,p1,_⟩:=h1.twin.ents j e1 g1
    rw [h2.bit j e2 e3 p1 g3 u,h1.bit j e1 e2 g1 p1 u]
    by_cases hu:u=t
    ·subst hu
     by_cases hji:(j:Int)=(i:Int)
     ·simp [hji]
     ·simp [hji]
    ·simp [hu]
theorem Rel.lose (h:Rel S A) {t:Nat} (ht:t<64) {L:List Int} {P:Thing→Bool} (hL:∀x∈L,∃i:Nat,x=i) (hP:∀(i:Nat) (e:EntD) (x:Thing),S.ents[i]? =some e→e.mask.testBit t=true→DenT S i x→((i:Int)∈L↔P x=false))
 (hcl:∀x∈(A t).have_.filter P,kidsIn ((A t).have_.filter P) x):
 Rel {loseL S t L with added:=upd S.added t []} (upd A t ⟨(A t).have_.filter P,[]⟩)∧Twin S {loseL S t L with added:=upd S.added t []}:=by
 have hf:=loseL_f ht L S h.inv hL
 have hle:=loseL_less t L S
 have hI:=(loseL_inv ht L S h.inv).mark t
 rw [hle.added] at hI
 have tw:Twin S {loseL S t L with added:=upd S.added t []}:=⟨hf.twin.idx,hf.twin.ents,hf.twin.back⟩
 have hbit:∀(j:Nat) e e',S.ents[j]? =some e→(loseL S t L).ents[j]? =some e'→∀u,e'.mask.testBit u=(e.mask.testBit u&& !(decide (u=t)&&decide ((j:Int)∈L))):=hf.bit
 refine ⟨⟨hI,?_,fun j e' h3 h4=>?_,fun u hu y=>?_,fun u hu id hid=>?_,fun u hu y hy=>?_,fun u hu=>?_⟩,tw⟩
 ·show (loseL S t L).live=((loseL S t L).size:Int)
  rw [hle.live,hle.size];exact h.live
 ·obtain ⟨e1,g1,g2,g3,g4⟩:=tw.back j e' h3
  obtain ⟨y,hy⟩:=h.good j e1 g1 (by have:=tw.idx;rw [←this,←g2];exact h4)
  exact ⟨y,tw.denT.2 hy⟩
 ·constructor
  ·intro hy
   by_cases hut:u=t
   ·subst hut
    rw [upd_same] at hy
    obtain ⟨hy1,hy2⟩:=List.mem_filter.1 hy
    obtain ⟨j,e1,g1,g2,g3⟩:=(h.own u hu y).1 hy1
    obtain ⟨e2,p1,p2,p3,p4⟩:=tw.ents j e1 g1
    refine ⟨j,e2,p1,?_,tw.denT.2 g3⟩
    rw [hbit j e1 e2 g1 p1 u,g2]
    have:¬(j:Int)∈L:=fun hm=>by rw [(hP j e1 y g1 g2 g3).1 hm] at hy2;cases hy2
    simp [this]
   ·rw [upd_ne _ _ hut] at hy
    obtain ⟨j,e1,g1,g2,g3⟩:=(h.own u hu y).1 hy
    obtain ⟨e2,p1,p2,p3,p4⟩:=tw.ents j e1 g1
    refine ⟨j,e2,p1,?_,tw.denT.2 g3⟩
    rw [hbit j e1 e2 g1 p1 u,g2]
    simp [hut]
  ·rintro ⟨j,e2,p1,p2,p3⟩
   obtain ⟨e1,g1,g2,g3,g4⟩:=tw.back j e2 p1
   have hd:=tw.denT.1 p3
   rw [hbit j e1 e2 g1 p1 u,Bool.and_eq_true] at p2
   have hm:=(h.own u hu y).2 ⟨j,e1,g1,p2.1,hd⟩
   by_cases hut:u=t
   ·subst hut
    rw [upd_same]
    refine List.mem_filter.2 ⟨hm,?_⟩
    cases hPy:P y with
    | true=>rfl
    | false=>
      have:=(hP j e1 y g1 p2.1 hd).2 hPy
      have:=p2.2
      simp_all
   ·rw [upd_ne _ _ hut];exact hm
 ·have hid:id∈upd S.added t [] u:=hid
  by_cases hut:u=t
  ·subst hut;rw [upd_same] at hid;cases hid
  ·rw [upd_ne _ _ hut] at hid ⊢
   obtain ⟨j,y,g1,g2,g3⟩:=h.add1 u hu id hid
   exact ⟨j,y,g1,tw.denT.2 g2,g3⟩
 ·show ∃j:Nat,(j:Int)∈upd S.added t [] u∧_
  by_cases hut:u=t
  ·subst hut;rw [upd_same] at hy;cases hy
  ·rw [upd_ne _ _ hut] at hy ⊢
   obtain ⟨j,g1,g2⟩:=h.add2 u hu y hy
   exact ⟨j,g1,tw.denT.2 g2⟩
 ·by_cases hut:u=t
  ·subst hut
   rw [upd_same]
   have hr:restL ⟨(A u).have_.filter P,[]⟩=(A u).have_.filter P:=by
    unfold restL
    simp
   exact ⟨(h.ok u hu).nodup.filter _,hcl,by rw [hr];exact hcl,fun x hx=>by cases hx⟩
  ·rw [upd_ne _ _ hut];exact h.ok u hu
theorem Rel.undo (h:Rel S A) {t:Nat} (ht:t<64):Rel (undoS S t) (upd A t ⟨restL (A t),[]⟩)∧Twin S (undoS S t):=by
 have:=h.lose ht (L:=S.added t) (P:=fun x=> !decide (x∈(A t).added)) (fun x hx=>by
  obtain ⟨i,_,e,_⟩:=h.add1 t ht x hx;exact ⟨i,e⟩) (fun i e x he hb hd=>by
  have hiff:(i:Int)∈S.added t↔x∈(A t).added:=by
   constructor
   ·intro hm
    obtain ⟨j,y,e1,h2,h3⟩:=h.add1 t ht _ hm
    have:j=i:=by omega
    subst this
    rw [DenT.fn h.inv hd h2];exact h3
   ·intro hm
    obtain ⟨j,h2,h3⟩:=h.add2 t ht x hm
    rw [DenT.inj hd h3];exact h2
  rw [hiff];simp) (h.ok t ht).rest
 exact this
def subs:Tree→List Tree
 | .dead=>[.dead]
 | .alive=>[.alive]
 | .node a b c d=> .node a b c d::(subs a++subs b++subs c++subs d)
theorem subs_self:∀x:Tree,x∈subs x
 | .dead=>List.mem_singleton.2 rfl
 | .alive=>List.mem_singleton.2 rfl
 | .node .. =>List.mem_cons_self ..
theorem subs_trans:∀{z y:Tree} (x:Tree),y∈subs x→z∈subs y→z∈subs x
 | z,y,.dead,h,h2=>by rw [List.mem_singleton.1 h] at h2;exact h2
 | z,y,.alive,h,h2=>by rw [List.mem_singleton.1 h] at h2;exact h2
 | z,y,.node a b c d,h,h2=>by
   simp only [subs] at h ⊢
   rcases List.mem_cons.1 h with rfl | h
   ·exact h2
   ·refine List.mem_cons_of_mem _ ?_
    simp only [List.mem_append] at h ⊢
    rcases h with ((h | h) | h) | h
    ·exact .inl (.inl (.inl (subs_trans a h h2)))
    ·exact .inl (.inl (.inr (subs_trans b h h2)))
    ·exact .inl (.inr (subs_trans c h h2))
    ·exact .inr (subs_trans d h h2)
def keepT (root:Tree):Thing→Bool
 | .sq a b c d=>decide (Tree.node a b c d∈subs root)
 | .note .. =>false
theorem Rel.owns (h:Rel S A) {t:Nat} (ht:t<64) {x:Tree} {id:Int} (hd:Den S id x):ownsB S t id 0=hasT (A t).have_ x:=by
 cases x with
 | dead=>simp only [Den] at hd;subst hd;simp [ownsB,hasT]
 | alive=>simp only [Den] at hd;subst hd;simp [ownsB,hasT]
 | node a b c d=>
   have hd2:=hd
   simp only [Den] at hd
   obtain ⟨i,e,rfl,h1,h2,h3,h4,_⟩:=hd
   have h5:=h.inv.two h2
   have hdt:DenT S i (.sq a b c d):=hd2
   have e1:entAt S (i:Int)=some e:=by unfold entAt;rw [if_pos (by omega),Int.toNat_natCast];exact h1
   unfold ownsB
   rw [e1]
   have n0:((i:Int)==0)=false:=by rw [beq_eq_false_iff_ne];omega
   have n1:((i:Int)==1)=false:=by rw [beq_eq_false_iff_ne];omega
   simp only [hasT,n0,n1,h3]
   have hiff:Thing.sq a b c d∈(A t).have_↔e.mask.testBit t=true:=by
    rw [h.own t ht]
    constructor
    ·rintro ⟨j,e',q1,q2,q3⟩
     have:=DenT.inj hdt q3
     subst this
     rw [h1] at q1;cases q1;exact q2
    ·intro hb;exact ⟨i,e,h1,hb,hdt⟩
   by_cases hm:Thing.sq a b c d∈(A t).have_
   ·simp [hm,hiff.1 hm]
   ·have:e.mask.testBit t=false:=by
     cases hb:e.mask.testBit t with
     | false=>rfl
     | true=>exact absurd (hiff.2 hb) hm
    simp [hm,this]
theorem Den.ge2 (_h:Inv S) {x:Tree} {id:Int} (hd:Den S id x) (h2:2≤id):∃a b c d,x= .node a b c d:=by
 cases x with
 | dead=>simp only [Den] at hd;omega
 | alive=>simp only [Den] at hd;omega
 | node a b c d=>exact ⟨a,b,c,d,rfl⟩
theorem reach_sub (h:Rel S A) {t:Nat} {root:Tree} {id:Int} (hd:Den S id root) {x:Int} (hr:Reach S t [id] x):∃y∈subs root,Den S x y:=by
 induction hr with
 | root x h1 h2 h3=>rw [List.mem_singleton.1 h1];exact ⟨root,subs_self _,hd⟩
 | kid i e x hp he hx h2 h3 ih=>
   obtain ⟨y,hy,hyd⟩:=ih
   obtain ⟨hp2,_⟩:=hp.own
   obtain ⟨a,b,c,d,rfl⟩:=hyd.ge2 h.inv hp2
   simp only [Den] at hyd
   obtain ⟨i',e',q1,q2,q3,q4,q5,g0,g1,g2,g3⟩:=hyd
   have:i=i':=by omega
   subst this
   rw [he] at q2;cases q2
   have key:∀z,z∈subs a++subs b++subs c++subs d→z∈subs root:=fun z hz=>subs_trans root hy (List.mem_cons_of_mem _ hz)
   simp only [kidsOf,List.mem_cons,List.not_mem_nil,or_false] at hx
   rcases hx with rfl | rfl | rfl | rfl
   ·exact ⟨a,key _ (by simp [subs_self a]),g0⟩
   ·exact ⟨b,key _ (by simp [subs_self b]),g1⟩
   ·exact ⟨c,key _ (by simp [subs_self c]),g2⟩
   ·exact ⟨d,key _ (by simp [subs_self d]),g3⟩
theorem sub_reach (h:Rel S A) {t:Nat} (ht:t<64) {roots:List Int}:∀{x:Tree} {id:Int},Den S id x→(2≤id→Reach S t roots id)→hasT (A t).have_ x=true→∀{y:Tree} {j:Int},y∈subs x→Den S j y→2≤j→Reach S t roots j
 | .dead,id,hd,hr,_,y,j,hy,hj,h2=>by rw [List.mem_singleton.1 hy] at hj;simp only [Den] at hj;omega
 | .alive,id,hd,hr,_,y,j,hy,hj,h2=>by rw [List.mem_singleton.1 hy] at hj;simp only [Den] at hj;omega
 | .node a b c d,id,hd,hr,hh,y,j,hy,hj,h2=>by
   simp only [subs] at hy
   rcases List.mem_cons.1 hy with rfl | hy
   ·have:=Den.inj hd hj
    subst this
    exact hr h2
   ·have hm:Thing.sq a b c d∈(A t).have_:=of_decide_eq_true hh
    obtain ⟨c0,c1,c2,c3⟩:=(h.ok t ht).closed _ hm
    have hd2:=hd
    simp only [Den] at hd
    obtain ⟨i,e,rfl,q2,q3,q4,q5,g0,g1,g2,g3⟩:=hd
    have hri:=hr (by have:=h.inv.two q3;omega)
    have kid:∀{z:Tree} {k:Int},k∈kidsOf e→Den S k z→hasT (A t).have_ z=true→2≤k→Reach S t roots k:=fun {z k} hk hz hzh h2k=> .kid i e k hri q2 hk h2k (by rw [h.owns ht hz];exact hzh)
    simp only [List.mem_append] at hy
    rcases hy with ((hy | hy) | hy) | hy
    ·exact sub_reach h ht g0 (kid (by simp [kidsOf]) g0 c0) c0 hy hj h2
    ·exact sub_reach h ht g1 (kid (by simp [kidsOf]) g1 c1) c1 hy hj h2
    ·exact sub_reach h ht g2 (kid (by simp [kidsOf]) g2 c2) c2 hy hj h2
    ·exact sub_reach h ht g3 (kid (by simp [kidsOf]) g3 c3) c3 hy hj h2
theorem Rel.clean (h:Rel S A) {t:Nat} (ht:t<64) {root:Tree} {id:Int} (hd:Den S id root) (hh:hasT (A t).have_ root=true) (hc:CleanR S t [id] S'):
 Rel S' (upd A t ⟨(A t).have_.filter (keepT root),[]⟩)∧Twin S S'∧S'.quota=S.quota∧S'.room=S.room∧S'.live=S.live:=by
 obtain ⟨L,h1,h2,rfl⟩:=hc
 have hle:=loseL_less t L S
 have:=h.lose ht (L:=L) (P:=keepT root) (fun x hx=>by obtain ⟨i,e,_⟩:=h1 x hx;exact ⟨i,e⟩) (fun i e x he hb hdx=>by
  have hi2:=(h.inv.own i e he (testBit_ne hb)).1
  rw [h2 i hi2 (List.getElem?_eq_some_iff.1 he).1]
  have hroot:2≤id→Reach S t [id] id:=fun h2=> .root id (List.mem_singleton.2 rfl) h2 (by rw [h.owns ht hd];exact hh)
  cases x with
  | sq a b c d=>
    have hiff:Reach S t [id] (i:Int)↔Tree.node a b c d∈subs root:=by
     constructor
     ·intro hr
      obtain ⟨y,hy,hyd⟩:=reach_sub h hd hr
      rw [Den.fn h.inv (x:=Tree.node a b c d) hdx hyd];exact hy
     ·intro hm
      exact sub_reach h ht hd hroot hh hm hdx (by omega)
    rw [hiff];simp [keepT]
  | note s r j=>
    have:¬Reach S t [id] (i:Int):=fun hr=>by
     obtain ⟨y,hy,hyd⟩:=reach_sub h hd hr
     obtain ⟨a,b,c,d,rfl⟩:=hyd.ge2 h.inv (by omega)
     have:=DenT.fn h.inv (x:= .note s r j) (y:= .sq a b c d) hdx hyd
     cases this
    simp [keepT,this]) (fun x hx=>by
  obtain ⟨hx1,hx2⟩:=List.mem_filter.1 hx
  cases x with
  | note s r j=>cases hx2
  | sq a b c d=>
    have hm:Tree.node a b c d∈subs root:=of_decide_eq_true hx2
    obtain ⟨c0,c1,c2,c3⟩:=(h.ok t ht).closed _ hx1
    have key:∀z,z∈subs a++subs b++subs c++subs d→hasT (A t).have_ z=true→hasT ((A t).have_.filter (keepT root)) z=true:=fun z hz hzh=>by
     cases z with
     | dead=>rfl
     | alive=>rfl
     | node a' b' c' d'=>
       have hm2:Tree.node a' b' c' d'∈subs root:=subs_trans root hm (List.mem_cons_of_mem _ hz)
       exact decide_eq_true (List.mem_filter.2 ⟨of_decide_eq_true hzh,decide_eq_true hm2⟩)
    exact ⟨key a (by simp [subs_self a]) c0,key b (by simp [subs_self b]) c1,key c (by simp [subs_self c]) c2,key d (by simp [subs_self d]) c3⟩)
 exact ⟨this.1,this.2,hle.quota,hle.room,hle.live⟩
theorem Rel.mark (h:Rel S A) {t:Nat} (ht:t<64):Rel {S with added:=upd S.added t []} (upd A t ⟨(A t).have_,[]⟩)∧Twin S {S with added:=upd S.added t []}:=by
 have:=h.lose ht (L:=[]) (P:=fun _=>true) (fun x hx=>by cases hx) (fun _ _ _ _ _ _=>by simp) (by rw [List.filter_eq_self.2 (fun _ _=>rfl)];exact (h.ok t ht).closed)
 rw [List.filter_eq_self.2 (fun _ _=>rfl)] at this
 exact this
theorem Rel.quota (h:Rel S A) (q:Nat→Int):Rel {S with quota:=q} A:=by
 have tw:Twin S {S with quota:=q}:=⟨rfl,fun j e he=>⟨e,he,rfl,rfl,rfl⟩,fun j e he=>⟨e,he,rfl,rfl,rfl⟩⟩
 refine ⟨h.inv.quota q,h.live,fun i e he hx=>?_,fun u hu y=>?_,fun u hu id hid=>?_,fun u hu y hy=>?_,h.ok⟩
 ·obtain ⟨y,hy⟩:=h.good i e he hx
  exact ⟨y,tw.denT.2 hy⟩
 ·rw [h.own u hu y]
  constructor
  ·rintro ⟨i,e,h1,h2,h3⟩;exact ⟨i,e,h1,h2,tw.denT.2 h3⟩
  ·rintro ⟨i,e,h1,h2,h3⟩;exact ⟨i,e,h1,h2,tw.denT.1 h3⟩
 ·obtain ⟨j,y,g1,g2,g3⟩:=h.add1 u hu id hid
  exact ⟨j,y,g1,tw.denT.2 g2,g3⟩
 ·obtain ⟨j,g1,g2⟩:=h.add2 u hu y hy
  exact ⟨j,g1,tw.denT.2 g2⟩
theorem Rel.sweep (h:Rel S A) {n:Nat} (hs:SweepR S S' n):Rel S' A∧Stays (fun e=>e.mask≠0) S S'∧S'.quota=S.quota∧S'.room=S.room∧S'.live≤S.live:=by
 obtain ⟨hI',hl'⟩:=hs.inv h.inv h.live
 have hkp:=sweep_keeps h.inv hs
 obtain ⟨S1,h1,rfl⟩:=hs
 have hf:=h1.facts h.inv
 have hst:Stays (fun e=>e.mask≠0) S {S1 with live:=S.live-n}:=fun i e he hx hm=>by
  obtain ⟨g1,g2⟩:=hf.same i e he (.inl hm)
  exact ⟨e,g1,rfl,rfl,rfl,by show S1.idx e.key=_;rw [g2];exact hx⟩
 have hback:∀(i:Nat) e,S1.ents[i]? =some e→S1.idx e.key=some (i:Int)→S.ents[i]? =some e∧S.idx e.key=some (i:Int)∧e.mask≠0:=by
  intro i e he hx
  have hm:=hf.clean i e (by rw [←hf.len];exact (List.getElem?_eq_some_iff.1 he).1) he hx
  have hx0:=hf.less _ _ hx
  obtain ⟨j,e0,q1,q2,q3,q4⟩:=h.inv.idx _ _ hx0
  have:j=i:=by omega
  subst this
  have hee:=(hf.same j e0 q3 (.inr (by rw [q4];exact hx))).1
  rw [he] at hee;cases hee
  exact ⟨q3,hx0,hm⟩
 have hown:∀u,u<64→∀x∈(A u).have_,∃(i:Nat) (e:EntD),S.ents[i]? =some e∧e.mask≠0∧DenT S i x:=fun u hu x hx=>by
  obtain ⟨i,e,q1,q2,q3⟩:=(h.own u hu x).1 hx
  exact ⟨i,e,q1,testBit_ne q2,q3⟩
 have hden:∀u,u<64→∀x∈(A u).have_,∀i,DenT S i x→DenT {S1 with live:=S.live-n} i x:=fun u hu x hx i hd=>DenT.staysO h.inv hst (h.ok u hu).closed (hown u hu) hx hd
 have hall:∀(i:Nat) e,S1.ents[i]? =some e→e.mask≠0→∃u x,u<64∧e.mask.testBit u=true∧S.ents[i]? =some e∧x∈(A u).have_∧DenT S i x∧DenT {S1 with live:=S.live-n} i x:=by
  intro i e he hm
  have hx:=(hf.inv.own i e he hm).2
  obtain ⟨q1,q2,_⟩:=hback i e he hx
  obtain ⟨u,hu,hub⟩:=mask_bit hm (h.inv.keys e (List.mem_of_getElem? q1)).2.2.2
  obtain ⟨x,hd⟩:=h.good i e q1 q2
  have hmx:=(h.own u hu x).2 ⟨i,e,q1,hub,hd⟩
  exact ⟨u,x,hu,hub,q1,hmx,hd,hden u hu x hmx i hd⟩
 refine ⟨⟨hI',hl',fun i e he hx=>?_,fun u hu y=>?_,fun u hu id hid=>?_,fun u hu y hy=>?_,h.ok⟩,hst,hkp.2.1,hkp.2.2.2.1,?_⟩
 ·obtain ⟨q1,q2,q3⟩:=hback i e he hx
  obtain ⟨u,x,_,_,_,_,_,g7⟩:=hall i e he q3
  exact ⟨x,g7⟩
 ·constructor
  ·intro hy
   obtain ⟨i,e,q1,q2,q3⟩:=(h.own u hu y).1 hy
   exact ⟨i,e,(hf.same i e q1 (.inl (testBit_ne q2))).1,q2,hden u hu y hy i q3⟩
  ·rintro ⟨i,e,q1,q2,q3⟩
   obtain ⟨u',x,hu',hub,g3,g4,g5,g6⟩:=hall i e q1 (testBit_ne q2)
   have:=DenT.fn hI' q3 g6
   subst this
   exact (h.own u hu y).2 ⟨i,e,g3,q2,g5⟩
 ·have hid:id∈S1.added u:=hid
  rw [hf.added] at hid
  obtain ⟨j,y,g1,g2,g3⟩:=h.add1 u hu id hid
  exact ⟨j,y,g1,hden u hu y ((h.ok u hu).added y g3) j g2,g3⟩
 ·obtain ⟨j,g1,g2⟩:=h.add2 u hu y hy
  exact ⟨j,by show (j:Int)∈S1.added u;rw [hf.added];exact g1,hden u hu y ((h.ok u hu).added y hy) j g2⟩
 ·show S.live-n≤S.live;omega
theorem newA_rel {room:Int} (h:0≤room∧room≤200000) (i:Nat):Rel (newA room i) (fun _=>⟨[],[]⟩) where
 inv:=newA_inv h i
 live:=rfl
 good:=fun j e he hx=>by cases hx
 own:=fun t ht x=>by
  constructor
  ·intro h;cases h
  ·rintro ⟨j,e,h1,h2,h3⟩
   have:e=zeroE:=by
    simp only [newA] at h1
    rcases List.mem_cons.1 (List.mem_of_getElem? h1) with h | h
    ·exact h
    ·exact List.mem_singleton.1 h
   subst this
   simp [zeroE] at h2
 add1:=fun t ht id hid=>by cases hid
 add2:=fun t ht x hx=>by cases hx
 ok:=fun t ht=>⟨List.nodup_nil,fun x hx=>(by cases hx),fun x hx=>(by cases hx),fun x hx=>(by cases hx)⟩
end
end Go.Proofs.YthohnjgnpapnoaaGreatDoor
namespace Go.Proofs.YthohnjgnpapnoaaGreatDoor
open Go.RowKit
def emptyT:Nat→Tree
 | 0=> .dead
 | n+1=> .node (emptyT n) (emptyT n) (emptyT n) (emptyT n)
def treeOf (P:Int→Int→Bool):Nat→Int→Int→Tree
 | 0,x,y=>if P x y then .alive else .dead
 | n+1,x,y=> .node (treeOf P n x y) (treeOf P n (x+2^n) y) (treeOf P n x (y+2^n)) (treeOf P n (x+2^n) (y+2^n))
def inB (n:Nat) (x y a b:Int):Prop:=x≤a∧a<x+2^n∧y≤b∧b<y+2^n
theorem pow_pos2 (n:Nat):(0:Int)<2^n:=Int.pow_pos (by decide)
theorem inB.up {n:Nat} {x y a b:Int}:inB (n+1) x y a b↔inB n x y a b∨inB n (x+2^n) y a b∨inB n x (y+2^n) a b∨inB n (x+2^n) (y+2^n) a b:=by
 have:=pow_pos2 n
 unfold inB
 rw [Int.pow_succ]
 omega
theorem treeOf_congr {P Q:Int→Int→Bool}:∀{n:Nat} {x y:Int},(∀a b,inB n x y a b→P a b=Q a b)→treeOf P n x y=treeOf Q n x y
 | 0,x,y,h=>by
   have:=h x y (by unfold inB;omega)
   simp only [treeOf,this]
 | n+1,x,y,h=>by
   simp only [treeOf]
   rw [treeOf_congr (n:=n) (x:=x) (y:=y) fun a b hb=>h a b (inB.up.2 (.inl hb)),
    treeOf_congr (n:=n) (x:=x+2^n) (y:=y) fun a b hb=>h a b (inB.up.2 (.inr (.inl hb))),
    treeOf_congr (n:=n) (x:=x) (y:=y+2^n) fun a b hb=>h a b (inB.up.2 (.inr (.inr (.inl hb)))),
    treeOf_congr (n:=n) (x:=x+2^n) (y:=y+2^n) fun a b hb=>h a b (inB.up.2 (.inr (.inr (.inr hb))))]
theorem treeOf_none {P:Int→Int→Bool}:∀{n:Nat} {x y:Int},(∀a b,inB n x y a b→P a b=false)→treeOf P n x y=emptyT n
 | 0,x,y,h=>by
   have:=h x y (by unfold inB;omega)
   simp [treeOf,this,emptyT]
 | n+1,x,y,h=>by
   simp only [treeOf,emptyT]
   rw [treeOf_none (n:=n) (x:=x) (y:=y) fun a b hb=>h a b (inB.up.2 (.inl hb)),
    treeOf_none (n:=n) (x:=x+2^n) (y:=y) fun a b hb=>h a b (inB.up.2 (.inr (.inl hb))),
    treeOf_none (n:=n) (x:=x) (y:=y+2^n) fun a b hb=>h a b (inB.up.2 (.inr (.inr (.inl hb)))),
    treeOf_none (n:=n) (x:=x+2^n) (y:=y+2^n) fun a b hb=>h a b (inB.up.2 (.inr (.inr (.inr hb))))]
theorem treeOf_empty:∀(n:Nat) (x y:Int),treeOf (fun _ _=>false) n x y=emptyT n:=fun _n _x _y=>treeOf_none fun _ _ _=>rfl
theorem treeOf_lvl (P:Int→Int→Bool):∀(n:Nat) (x y:Int),(treeOf P n x y).lvl=n
 | 0,x,y=>by simp only [treeOf];split<;>rfl
 | n+1,x,y=>by simp only [treeOf,Tree.lvl];rw [treeOf_lvl P n x y];omega
theorem emptyT_lvl (n:Nat):(emptyT n).lvl=n:=by rw [←treeOf_empty n 0 0];exact treeOf_lvl _ n 0 0
def nodes:Tree→List Thing
 | .node a b c d=> .sq a b c d::(nodes a++nodes b++nodes c++nodes d)
 | .dead=>[]
 | .alive=>[]
theorem mem_nodes {a b c d:Tree} {x:Thing}:x∈nodes (.node a b c d)↔x= .sq a b c d∨x∈nodes a∨x∈nodes b∨x∈nodes c∨x∈nodes d:=by
 simp only [nodes,List.mem_cons,List.mem_append]
 constructor
 ·rintro (h | ((h | h) | h) | h)
  ·exact .inl h
  ·exact .inr (.inl h)
  ·exact .inr (.inr (.inl h))
  ·exact .inr (.inr (.inr (.inl h)))
  ·exact .inr (.inr (.inr (.inr h)))
 ·rintro (h | h | h | h | h)
  ·exact .inl h
  ·exact .inr (.inl (.inl (.inl h)))
  ·exact .inr (.inl (.inl (.inr h)))
  ·exact .inr (.inl (.inr h))
  ·exact .inr (.inr h)
theorem nodes_has {l:List Thing} (hc:∀x∈l,kidsIn l x):∀{T:Tree},hasT l T=true→∀x∈nodes T,x∈l
 | .dead,_,x,hx=>by simp [nodes] at hx
 | .alive,_,x,hx=>by simp [nodes] at hx
 | .node a b c d,h,x,hx=>by
   have hm:Thing.sq a b c d∈l:=of_decide_eq_true h
   obtain ⟨h0,h1,h2,h3⟩:=hc _ hm
   rcases mem_nodes.1 hx with rfl | k | k | k | k
   ·exact hm
   ·exact nodes_has hc h0 x k
   ·exact nodes_has hc h1 x k
   ·exact nodes_has hc h2 x k
   ·exact nodes_has hc h3 x k
theorem has_nodes {l:List Thing} {T:Tree} (h:∀x∈nodes T,x∈l):hasT l T=true:=by
 cases T with
 | dead=>rfl
 | alive=>rfl
 | node a b c d=>exact decide_eq_true (h _ (mem_nodes.2 (.inl rfl)))
def blanks:Nat→List Thing
 | 0=>[]
 | n+1=> .sq (emptyT n) (emptyT n) (emptyT n) (emptyT n)::blanks n
theorem blanks_length:∀n,(blanks n).length=n
 | 0=>rfl
 | n+1=>by simp [blanks,blanks_length n]
theorem nodes_emptyT:∀(n:Nat) (x:Thing),x∈nodes (emptyT n)↔x∈blanks n
 | 0,x=>by simp [nodes,emptyT,blanks]
 | n+1,x=>by
   simp only [emptyT,blanks,mem_nodes,List.mem_cons,nodes_emptyT n x]
   constructor
   ·rintro (h | h | h | h | h)
    ·exact .inl h
    all_goals exact .inr h
   ·rintro (h | h)
    ·exact .inl h
    ·exact .inr (.inl h)
def setOfL (l:List (Int×Int)) (a b:Int):Bool:=decide ((a,b)∈l)
end Go.Proofs.YthohnjgnpapnoaaGreatDoor
