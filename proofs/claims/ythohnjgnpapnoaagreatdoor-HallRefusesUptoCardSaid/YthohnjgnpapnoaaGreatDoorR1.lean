/- Words on memory: a block that is known whole, what a step may have changed, a slice that reads as a list of cells. No program is named here. · append onto a slice that reads as a list of cells: the run of the builtin, in one law for both arms. No program is named here. · From a walk that leaves old memory alone to a row's post: every argument reads as it did. And slices of structs of two fields, opened. · Rows of cells (pairs of integers) as functions, in an own block. No program is named here. · A list of cells as an argument: what a row's precondition says of it. · speech: numbers as texts, in plain words. · speech: requests as texts, in plain words. · speech: a line and its request, in plain words. · append onto a slice that reads as a list, for the walk: in a plain region, and in a region that draws its order. No program is named here. · Strings by their bytes; slices of bytes; what an append leaves. · speech: what the library's Split, Cut and TrimPrefix say, in plain words. · speech.Named, speech.Keyed: the walks. -/
import Derived.WalkKit
import Derived.WalkSpells
import Derived.WalkLawsBesides
import Derived.Lib.Hide
import Derived.ArgAppend
import Derived.Deep.OwnRows
import Derived.Deep.Draws
import Derived.Laws.Rows
import Derived.OwnWalk
import Derived.Maps.AppendAt
import Derived.RegionTactic
import Derived.Test.YthohnjgnpapnoaaGreatDoorRows
import Derived.ProofKit
import Derived.Deep.Slices
import Derived.Deep.Fields
import Derived.Carry
import Derived.SizedLaws
import Derived.Lib.AtoiAll
import Derived.Lib.Atoi
import Derived.Lib.ItoaNum
import Derived.Deep.RegionLaw
import Derived.Laws.Strings3
import Derived.Laws.BytesString
import Derived.Outline
import Derived.Lib.SplitLaws
import Derived.Lib.Strings
set_option linter.unusedVariables false
set_option linter.unusedSimpArgs false
namespace Go.Proofs.YthohnjgnpapnoaaGreatDoor
open Go.RowKit
def Blk (w:World) (b:Nat) (t:TypeId) (cs:Array Value):Prop:=w.heap[b]? =some (.cells cs t (0,0))
structure Mod (S:Nat→Prop) (w w':World):Prop where
 os:w'.os=w.os
 tape:w'.tape=w.tape
 output:w'.output=w.output
 size:w.heap.size≤w'.heap.size
 block:∀k,k<w.heap.size→¬S k→w'.heap[k]? =w.heap[k]?
theorem some_lt {w:World} {b:Nat} {o:Obj} (h:w.heap[b]? =some o):b<w.heap.size:=by
 rcases Nat.lt_or_ge b w.heap.size with hlt | hge
 ·exact hlt
 ·rw [Array.getElem?_eq_none hge] at h;cases h
section blk
variable {w w' : World} {b : Nat} {t : TypeId} {cs : Array Value}
theorem Blk.lt (h:Blk w b t cs):b<w.heap.size:=some_lt h
theorem Blk.cell (h:Blk w b t cs) (i:Nat):w.cell? ⟨b,i,none⟩=cs[i]? :=cell_of_row w b i cs t (0,0) h
theorem Blk.cellS (h:Blk w b t cs) {i:Nat} {v:Value} (hi:cs[i]? =some v):w.cell? ⟨b,i,none⟩=some v:=(h.cell i).trans hi
theorem Blk.frozen (h:Blk w b t cs) (i:Nat):w.frozen? ⟨b,i,none⟩=false:=by
 unfold Blk at h;simp [World.frozen?,h]
theorem Blk.new (w:World) (t:TypeId) (cs:Array Value):Blk (w.alloc (.cells cs t)) w.heap.size t cs:=heap_alloc_new w _
theorem Blk.drew (h:Blk w b t cs):Blk w.drew b t cs:=h
theorem Blk.drewN (h:Blk w b t cs) (n:Nat):Blk (w.drewN n) b t cs:=h
theorem Blk.alloc (h:Blk w b t cs) (o:Obj):Blk (w.alloc o) b t cs:=(Below.heap_alloc w o b h.lt).trans h
theorem Blk.set (h:Blk w b t cs) (i:Nat) (u:Value):Blk (w.setCell ⟨b,i,none⟩ u) b t (cs.setIfInBounds i u):=by
 unfold Blk at h ⊢
 simp [World.setCell,Array.getElem?_modify,h]
theorem Blk.far (h:Blk w b t cs) {p:Addr} (hp:b≠p.block) (u:Value):Blk (w.setCell p u) b t cs:=(Below.heap_setCell w p u b hp).trans h
theorem Blk.mod {S:Nat→Prop} (h:Blk w b t cs) (hm:Mod S w w') (hS:¬S b):Blk w' b t cs:=(hm.block b h.lt hS).trans h
theorem Blk.inj {t':TypeId} {cs':Array Value} (h:Blk w b t cs) (h':Blk w b t' cs'):t=t'∧cs=cs':=by
 unfold Blk at h h';rw [h] at h';injection h' with h';injection h' with h1 h2;exact ⟨h2,h1⟩
theorem Blk.ne {b':Nat} {t':TypeId} {cs':Array Value} (h:Blk w b t cs) (h':Blk w b' t' cs') (hne:t≠t'):b≠b':=by
 rintro rfl;exact hne (h.inj h').1
end blk
section mod
variable {S S' : Nat → Prop} {w w1 w2 : World}
theorem Mod.refl (S:Nat→Prop) (w:World):Mod S w w:=⟨rfl,rfl,rfl,Nat.le_refl _,fun _ _ _=>rfl⟩
theorem Mod.trans (h:Mod S w w1) (k:Mod S' w1 w2) (hS:∀b,b<w.heap.size→S' b→S b):Mod S w w2:=
 ⟨k.os.trans h.os,k.tape.trans h.tape,k.output.trans h.output,Nat.le_trans h.size k.size,
  fun b hb hn=>(k.block b (Nat.lt_of_lt_of_le hb h.size) (fun hk=>hn (hS b hb hk))).trans (h.block b hb hn)⟩
theorem Mod.mono (h:Mod S w w1) (hS:∀b,b<w.heap.size→S b→S' b):Mod S' w w1:=
 ⟨h.os,h.tape,h.output,h.size,fun b hb hn=>h.block b hb (fun hs=>hn (hS b hb hs))⟩
theorem Mod.drew (h:Mod S w w1):Mod S w w1.drew:=⟨h.os,h.tape,h.output,h.size,h.block⟩
theorem Mod.drewN (h:Mod S w w1) (n:Nat):Mod S w (w1.drewN n):=⟨h.os,h.tape,h.output,h.size,h.block⟩
theorem Mod.alloc (h:Mod S w w1) (o:Obj):Mod S w (w1.alloc o):=
 ⟨h.os,h.tape,h.output,Nat.le_trans h.size (by simp),fun b hb hn=>(Below.heap_alloc w1 o b (Nat.lt_of_lt_of_le hb h.size)).trans (h.block b hb hn)⟩
theorem Mod.set (h:Mod S w w1) {p:Addr} (hp:p.block<w.heap.size→S p.block) (u:Value):Mod S w (w1.setCell p u):=
 ⟨h.os,h.tape,h.output,by simpa [World.setCell] using h.size,fun b hb hn=>
  (Below.heap_setCell w1 p u b (fun e=>by subst e;exact hn (hp hb))).trans (h.block b hb hn)⟩
theorem Mod.cell (h:Mod S w w1) {a:Addr} (hb:a.block<w.heap.size) (hn:¬S a.block):w1.cell? a=w.cell? a:=World.cell?_of_block (h.block _ hb hn)
theorem Mod.frozen (h:Mod S w w1) {a:Addr} (hb:a.block<w.heap.size) (hn:¬S a.block):w1.frozen? a=w.frozen? a:=World.frozen?_of_block (h.block _ hb hn)
theorem Mod.below (h:Mod S w w1) {B:Nat} (hB:B≤w.heap.size) (hS:∀b,b<B→¬S b):Below B w w1:=
 ⟨h.os,h.tape,h.output,h.size,fun k hk=>h.block k (by omega) (hS k hk)⟩
theorem Mod.of_below {B:Nat} (h:Below B w w1):Mod (fun b=>B≤b) w w1:=
 ⟨h.os,h.tape,h.output,h.size,fun k _ hn=>h.block k (by omega)⟩
theorem Mod.of_below_all (h:Below w.heap.size w w1):Mod (fun _=>False) w w1:=
 ⟨h.os,h.tape,h.output,h.size,fun k hk _=>h.block k hk⟩
end mod
def sblk:Value→Option Nat
 | .slice (some a) _ _=>some a.block
 | _=>none
def Sl (w:World) (t:TypeId) (sz:Nat) (v:Value) (n:Nat) (xs:List Value):Prop:=
 xs.length=n*sz∧∃A cap,v= .slice A n cap∧n≤cap∧cap≤maxLen∧
  (A=none→cap=0)∧∀a,A=some a→∃cs,a.spot=none∧Blk w a.block t cs∧a.off+cap*sz≤cs.size∧(cs.toList.drop a.off).take (n*sz)=xs
section sl
variable {w w' : World} {t : TypeId} {sz n : Nat} {v : Value} {xs : List Value}
theorem Sl.nil (w:World) (t:TypeId) (sz:Nat):Sl w t sz (.slice none 0 0) 0 []:=
 ⟨by simp,none,0,rfl,Nat.le_refl _,by simp [maxLen],fun _=>rfl,fun a h=>by cases h⟩
theorem Sl.len (h:Sl w t sz v n xs):xs.length=n*sz:=h.1
theorem Sl.of_blk (h:Sl w t sz v n xs) (hb:∀b,sblk v=some b→w'.heap[b]? =w.heap[b]?):Sl w' t sz v n xs:=by
 obtain ⟨h1,A,cap,rfl,h2,h3,h4,h5⟩:=h
 refine ⟨h1,A,cap,rfl,h2,h3,h4,fun a ha=>?_⟩
 obtain ⟨cs,c1,c2,c3,c4⟩:=h5 a ha
 subst ha
 exact ⟨cs,c1,(hb _ rfl).trans c2,c3,c4⟩
theorem Sl.lt (h:Sl w t sz v n xs) {b:Nat} (hb:sblk v=some b):b<w.heap.size∧∃cs,Blk w b t cs:=by
 obtain ⟨h1,A,cap,rfl,h2,h3,h4,h5⟩:=h
 cases A with
 | none=>simp [sblk] at hb
 | some a=>
   simp [sblk] at hb;subst hb
   obtain ⟨cs,c1,c2,c3,c4⟩:=h5 a rfl
   exact ⟨c2.lt,cs,c2⟩
theorem Sl.mod {S:Nat→Prop} (h:Sl w t sz v n xs) (hm:Mod S w w') (hS:∀b,sblk v=some b→¬S b):Sl w' t sz v n xs:=
 h.of_blk fun b hb=>hm.block b (h.lt hb).1 (hS b hb)
theorem Sl.drew (h:Sl w t sz v n xs):Sl w.drew t sz v n xs:=h
theorem Sl.drewN (h:Sl w t sz v n xs) (k:Nat):Sl (w.drewN k) t sz v n xs:=h
theorem Sl.alloc (h:Sl w t sz v n xs) (o:Obj):Sl (w.alloc o) t sz v n xs:=h.of_blk fun _ hb=>Below.heap_alloc w o _ (h.lt hb).1
theorem Sl.far (h:Sl w t sz v n xs) {p:Addr} (hp:sblk v≠some p.block) (u:Value):Sl (w.setCell p u) t sz v n xs:=
 h.of_blk fun b hb=>Below.heap_setCell w p u b (fun e=>hp (by rw [hb,e]))
theorem Sl.ne (h:Sl w t sz v n xs) {b:Nat} {t':TypeId} {cs:Array Value} (hb:Blk w b t' cs) (hne:t≠t'):sblk v≠some b:=by
 intro e
 obtain ⟨_,cs',h'⟩:=h.lt e
 exact hne (h'.inj hb).1
theorem Sl.form (h:Sl w t sz v n xs):∃A cap,v= .slice A n cap∧n≤cap∧cap≤maxLen:=by
 obtain ⟨h1,A,cap,rfl,h2,h3,_⟩:=h;exact ⟨A,cap,rfl,h2,h3⟩
theorem Sl.at (h:Sl w t sz v n xs) (hn:0<n):∃b off cap,v= .slice (some ⟨b,off,none⟩) n cap∧n≤cap∧cap≤maxLen∧b<w.heap.size∧
 (∀j u,xs[j]? =some u→w.cell? ⟨b,off+j,none⟩=some u)∧(∀j,w.frozen? ⟨b,j,none⟩=false)∧(∃cs,Blk w b t cs∧off+cap*sz≤cs.size∧(cs.toList.drop off).take (n*sz)=xs):=by
 obtain ⟨h1,A,cap,rfl,h2,h3,h4,h5⟩:=h
 cases A with
 | none=>have:=h4 rfl;omega
 | some a=>
   obtain ⟨cs,c1,c2,c3,c4⟩:=h5 a rfl
   obtain ⟨b,off,sp⟩:=a
   simp at c1 c2 c3 c4;subst c1
   refine ⟨b,off,cap,rfl,h2,h3,c2.lt,fun j u hj=>?_,fun j=>c2.frozen j,cs,c2,c3,c4⟩
   rw [c2.cell]
   rw [←c4,List.getElem?_take] at hj
   split at hj
   ·rw [List.getElem?_drop] at hj;simpa using hj
   ·cases hj
end sl
end Go.Proofs.YthohnjgnpapnoaaGreatDoor
namespace Go.Proofs.YthohnjgnpapnoaaGreatDoor
open Go.RowKit
def Rd (w:World) (B:Nat) (sz:Nat) (v:Value) (n:Nat) (xs:List Value):Prop:=
 xs.length=n*sz∧∃A cap,v= .slice A n cap∧n≤cap∧cap≤maxLen∧
  (0<n→∃b off,A=some ⟨b,off,none⟩∧b<B∧∀j u,xs[j]? =some u→w.cell? ⟨b,off+j,none⟩=some u)
section rd
variable {w w' : World} {B sz n : Nat} {v : Value} {xs : List Value} {t : TypeId}
theorem Sl.rd (h:Sl w t sz v n xs):Rd w w.heap.size sz v n xs:=by
 obtain ⟨A,cap,rfl,h2,h3⟩:=h.form
 refine ⟨h.1,A,cap,rfl,h2,h3,fun hn=>?_⟩
 obtain ⟨b,off,cap',he,_,_,hlt,hc,_⟩:=h.at hn
 injection he with e1 _ _
 exact ⟨b,off,e1,hlt,hc⟩
theorem Rd.keep (h:Rd w B sz v n xs) (hk:∀b,b<B→w'.heap[b]? =w.heap[b]?):Rd w' B sz v n xs:=by
 obtain ⟨h1,A,cap,rfl,h2,h3,h4⟩:=h
 refine ⟨h1,A,cap,rfl,h2,h3,fun hn=>?_⟩
 obtain ⟨b,off,e,hb,hc⟩:=h4 hn
 exact ⟨b,off,e,hb,fun j u hj=>(World.cell?_of_block (hk b hb)).trans (hc j u hj)⟩
theorem Rd.below (h:Rd w B sz v n xs) (hb:Below B w w'):Rd w' B sz v n xs:=h.keep hb.block
theorem Rd.mod {S:Nat→Prop} (h:Rd w B sz v n xs) (hm:Mod S w w') (hB:B≤w.heap.size) (hS:∀b,b<B→¬S b):Rd w' B sz v n xs:=
 h.keep fun b hb=>hm.block b (by omega) (hS b hb)
theorem Rd.more {B':Nat} (h:Rd w B sz v n xs) (hB:B≤B'):Rd w B' sz v n xs:=by
 obtain ⟨h1,A,cap,rfl,h2,h3,h4⟩:=h
 refine ⟨h1,A,cap,rfl,h2,h3,fun hn=>?_⟩
 obtain ⟨b,off,e,hb,hc⟩:=h4 hn
 exact ⟨b,off,e,by omega,hc⟩
theorem Rd.form (h:Rd w B sz v n xs):∃A cap,v= .slice A n cap∧n≤cap∧cap≤maxLen:=by
 obtain ⟨h1,A,cap,rfl,h2,h3,_⟩:=h;exact ⟨A,cap,rfl,h2,h3⟩
theorem Rd.at (h:Rd w B sz v n xs) (hn:0<n):∃b off cap,v= .slice (some ⟨b,off,none⟩) n cap∧n≤cap∧cap≤maxLen∧b<B∧
 ∀j u,xs[j]? =some u→w.cell? ⟨b,off+j,none⟩=some u:=by
 obtain ⟨h1,A,cap,rfl,h2,h3,h4⟩:=h
 obtain ⟨b,off,rfl,hb,hc⟩:=h4 hn
 exact ⟨b,off,cap,rfl,h2,h3,hb,hc⟩
theorem Rd.fresh (w:World) (t:TypeId) (cs:Array Value) (sz n:Nat) (hl:cs.size=n*sz) (hm:n≤maxLen):
 Rd (w.alloc (.cells cs t)) (w.heap.size+1) sz (.slice (some ⟨w.heap.size,0,none⟩) n n) n cs.toList:=
 ⟨by simpa using hl,_,_,rfl,Nat.le_refl _,hm,fun _=>⟨_,_,rfl,by omega,fun j u hj=>by rw [(Blk.new w t cs).cell];simpa using hj⟩⟩
end rd
theorem heap_setCells (b:Nat) (vs:List Value):∀(o:Nat) (w:World) (t:TypeId) (cs:Array Value),Blk w b t cs→o+vs.length≤cs.size→
 ∃cs',Blk (w.setCells b o vs) b t cs'∧cs'.toList=cs.toList.take o++vs++cs.toList.drop (o+vs.length):=by
 induction vs with
 | nil=>intro o w t cs h _;exact ⟨cs,h,by simp⟩
 | cons v r ih=>
   intro o w t cs h hl
   simp at hl
   obtain ⟨cs',h1,h2⟩:=ih (o+1) _ t _ (h.set o v) (by simp;omega)
   refine ⟨cs',h1,?_⟩
   rw [h2]
   simp only [Array.toList_setIfInBounds]
   have ho:o<cs.toList.length:=by simp;omega
   rw [List.take_set,List.drop_set]
   rw [if_pos (by omega)]
   have:(cs.toList.take (o+1)).set o v=cs.toList.take o++ [v]:=by
    rw [List.take_succ_eq_append_getElem ho]
    rw [List.set_append_right _ _ (by simp;omega)]
    have hmin:min o cs.size=o:=Nat.min_eq_left (by simp at ho;omega)
    simp [hmin]
   rw [this]
   simp [Nat.add_assoc,Nat.add_comm 1]
theorem mod_setCells (b:Nat) (vs:List Value):∀(o:Nat) (w w0:World) (S:Nat→Prop),Mod S w0 w→(b<w0.heap.size→S b)→Mod S w0 (w.setCells b o vs):=by
 induction vs with
 | nil=>intro o w w0 S h _;exact h
 | cons v r ih=>intro o w w0 S h hb;exact ih (o+1) _ w0 S (h.set hb v) hb
section app
variable {P : Program} (w : World)
theorem run_append_sl (t ty e:TypeId) (i:TypeInfo) (z:Value) (sz bytes:Nat) (ht:P.underlying t=some (.slice e)) (hi:P.info? e=some i) (hz:i.zero=some z)
 (hsize:i.size=sz) (hby:i.bytes=bytes) (hzs:z.cells.size=sz) (hsz:0<sz)
 {v:Value} {n:Nat} {xs:List Value} (hv:Sl w e sz v n xs)
 {B m:Nat} {x:Value} {news:List Value} (hx:Rd w B sz x m news) (h1:∀u∈news,u.oneCell'=true)
 (hbytes:(n+m)*bytes≤140737488355328) (h63:n+m≤maxLen):
 ∃v' w',(Builtin.append_ #[t,t] ty #[v,x]).run P w= .ok v' w'∧Sl w' e sz v' (n+m) (xs++news)∧Mod (fun b=>sblk v=some b) w w'∧
  (sblk v'=sblk v∨sblk v'=some w.heap.size∧w.heap.size<w'.heap.size):=by
 obtain ⟨hl,A,cap,rfl,hnc,hcm,hA,hc⟩:=hv
 obtain ⟨hm1,A2,cap2,rfl,hmc,hcm2,hx4⟩:=hx
 rcases Nat.eq_zero_or_pos m with hm0 | hmpos
 ·subst hm0
  have hnil:news= []:=List.eq_nil_of_length_eq_zero (by simpa using hm1)
  subst hnil
  refine ⟨.slice A n cap,w,?_,⟨by simpa using hl,A,cap,rfl,hnc,hcm,hA,by simpa using hc⟩,Mod.refl _ _,.inl rfl⟩
  cases A with
  | none=>
    have:=hA rfl;subst this
    have:n=0:=by omega
    subst this
    cases A2 with
    | none=>simp [Builtin.append_,run_underlying ht,sizeOf,typeInfo,hi,Builtin.lenOf,Builtin.firstCells]
    | some a2=>
      have hf:=run_firstCells_some (P:=P) w i.size 0 a2 0 cap2 [] (by simp) (by intro j u hj;simp at hj)
      simp [Builtin.append_,run_underlying ht,sizeOf,typeInfo,hi,Builtin.lenOf,hf]
  | some a=>
    cases A2 with
    | none=>simp [Builtin.append_,run_underlying ht,sizeOf,typeInfo,hi,Builtin.lenOf,Builtin.firstCells,hnc,storeCells]
    | some a2=>
      have hf:=run_firstCells_some (P:=P) w i.size 0 a2 0 cap2 [] (by simp) (by intro j u hj;simp at hj)
      simp [Builtin.append_,run_underlying ht,sizeOf,typeInfo,hi,Builtin.lenOf,hf,hnc,storeCells]
 ·obtain ⟨b2,off2,rfl,hb2,hc2⟩:=hx4 hmpos
  have hnews:∀j u,news[j]? =some u→w.cell? ((⟨b2,off2,none⟩:Addr).add j)=some u:=by
   intro j u hj;rw [Addr.add_lit];exact hc2 j u hj
  by_cases hroom:n+m≤cap
  ·cases A with
   | none=>have:=hA rfl;omega
   | some a=>
     obtain ⟨cs,c1,c2,c3,c4⟩:=hc a rfl
     obtain ⟨b,off,sp⟩:=a
     simp at c1 c2 c3 c4;subst c1
     have hbig:off+n*sz+news.length≤cs.size:=by
      have:(n+m)*sz≤cap*sz:=Nat.mul_le_mul_right _ hroom
      rw [Nat.add_mul] at this;omega
     have hrun:=run_append_room_cells (P:=P) w t ty e i ht hi b off n cap ⟨b2,off2,none⟩ m cap2 news (by rw [hsize];exact hm1) hnews h1 hroom
      (fun j hj=>by rw [hsize,c2.cell,Array.getElem?_eq_getElem (by omega)];rfl) (fun j hj=>c2.frozen _)
     obtain ⟨cs',d1,d2⟩:=heap_setCells b news (off+n*sz) w e cs c2 hbig
     have hsz':cs'.size=cs.size:=by
      have:=congrArg List.length d2
      simp at this;omega
     refine ⟨_,_,hrun,⟨by rw [List.length_append,hl,hm1,Nat.add_mul],_,_,rfl,hroom,hcm,(fun h=>nomatch h),fun a ha=>?_⟩,mod_setCells b news _ w w _ (Mod.refl _ _) (fun _=>rfl),.inl rfl⟩
     injection ha with ha;subst ha
     refine ⟨cs',rfl,by rw [hsize];exact d1,by rw [hsz'];exact c3,?_⟩
     have hlo:off+n*sz≤cs.toList.length:=by simp;omega
     rw [d2,←c4]
     simp only [List.append_assoc]
     rw [List.drop_append_of_le_length (by rw [List.length_take];omega)]
     rw [List.drop_take,Nat.add_sub_cancel_left]
     have hlen:((cs.toList.drop off).take (n*sz)).length=n*sz:=by simp;omega
     rw [List.take_append,hlen,List.take_of_length_le (by rw [hlen,Nat.add_mul];omega)]
     congr 1
     rw [Nat.add_mul,Nat.add_sub_cancel_left,List.take_append_of_le_length (by omega),List.take_of_length_le (by omega)]
  ·have hgrow:cap<n+m:=by omega
   subst hsize;subst hby
   have h63':n+m≤9223372036854775807:=by simp only [maxLen] at h63;omega
   have key:∃a:Option Addr,A=a∧((Builtin.append_ #[t,t] ty #[.slice A n cap,.slice (some ⟨b2,off2,none⟩) m cap2]).run P w=
    .ok (.slice (some ⟨w.heap.size,0,none⟩) (n+m) (grownCap w (n+m) cap e)) (w.drew.alloc (.cells (xs.toArray++news.toArray++Builtin.zeroCells z.cells (grownCap w (n+m) cap e-(n+m))) e))):=by
    refine ⟨A,rfl,?_⟩
    cases A with
    | none=>
      have hc0:=hA rfl;subst hc0
      have hn0:n=0:=by omega
      subst hn0
      have hxs:xs= []:=List.eq_nil_of_length_eq_zero (by simpa using hl)
      subst hxs
      have hr:=run_append_nil (P:=P) w t ty e i z ht hi hz ⟨b2,off2,none⟩ m cap2 news hm1 hnews (by omega) (by omega) (by have hb:=hbytes;simp only [Nat.zero_add] at hb;omega)
      simpa using hr
    | some a=>
      obtain ⟨cs,c1,c2,c3,c4⟩:=hc a rfl
      obtain ⟨b,off,sp⟩:=a
      simp at c1 c2 c3 c4;subst c1
      exact run_append_grow (P:=P) w t ty e i z ht hi hz ⟨b,off,none⟩ n cap xs hl (fun j u hj=>by
       rw [Addr.add_lit,c2.cell]
       rw [←c4,List.getElem?_take] at hj
       split at hj
       ·rw [List.getElem?_drop] at hj;simpa using hj
       ·cases hj) ⟨b2,off2,none⟩ m cap2 news hm1 hnews hgrow (by omega) (growslice_fits hgrow hbytes)
   obtain ⟨_,_,hrun⟩:=key
   refine ⟨_,_,hrun,⟨by rw [List.length_append,hl,hm1,Nat.add_mul],_,_,rfl,grownCap_ge w (n+m) cap e,grownCap_le_maxLen w (n+m) cap e h63,(fun h=>nomatch h),fun a ha=>?_⟩,?_,.inr ⟨rfl,by simp⟩⟩
   ·injection ha with ha;subst ha
    refine ⟨_,rfl,Blk.new _ _ _,?_,?_⟩
    ·have hge:=grownCap_ge w (n+m) cap e
     simp only [Array.size_append,List.size_toArray,size_zeroCells,hzs,hl,hm1,←Nat.add_mul]
     rw [Nat.zero_add];apply Nat.mul_le_mul_right;omega
    ·simp only [Array.toList_append,List.append_assoc,List.drop_zero]
     rw [←List.append_assoc]
     rw [List.take_append_of_le_length (by simp [hl,hm1,Nat.add_mul])]
     rw [List.take_of_length_le (by simp [hl,hm1,Nat.add_mul])]
   ·exact (Mod.refl _ w).drew.alloc _
end app
end Go.Proofs.YthohnjgnpapnoaaGreatDoor
namespace Go.Proofs.YthohnjgnpapnoaaGreatDoor
open Go.RowKit Go.ChangeShapes Go.WideShapes
section
variable {H : Type} {enc : TypeId × Value → H} {P : Program}
theorem trodAll_below (hl:laidOutB P=true) {W W':World} (hb:Below W.heap.size W W'):∀(ts:List TypeId) (vs:List Value) (ds:List (DataW H)) (ps:List MemPlace),
 (∀t∈ts,P.readableRec t=true∧t<P.types.size)→DataW.TrodAll enc P W 0 (fun _=>true) true ts vs ds ps→(∀x∈ps,x.block<W.heap.size)→
 DataW.TrodAll enc P W' 0 (fun b=>decide (b<W.heap.size)) true ts vs ds ps
 | [],[],[],_,_,h,_=>h
 | t::ts,v::vs,d::ds,ps,ht,h,hlt=>by
   obtain ⟨p,q,h1,h2,rfl⟩:=h
   obtain ⟨r1,r2⟩:=ht t (by simp)
   exact ⟨p,q,Below.trod hl r1 r2 h1 hb (fun x hx=>hlt x (by simp [hx])),trodAll_below hl hb ts vs ds q (fun t ht'=>ht t (by simp [ht'])) h2 (fun x hx=>hlt x (by simp [hx])),rfl⟩
theorem law_post (hl:laidOutB P=true) {f:Func} {s:ChangeSpec} {W W':World} {args:Array Value} {ds gs:List (DataW H)} {before:List MemPlace}
 (hts:∀t∈f.params.toList,P.readableRec t=true∧t<P.types.size) (hvars:s.vars= [])
 (hW:DataW.Whole enc P f.params.toList s.vars false W args.toList ds gs before) (hb:Below W.heap.size W W') {tb:TypeId} (hrt:f.resultTypes= #[tb]) (htb:P.underlying tb=some .bool)
 (hres:(s.fn H (ds++gs)).results= [.lit (.bool true)]) (hargs:(s.fn H (ds++gs)).args=ds) (hsv:(s.fn H (ds++gs)).vars= []):
 s.post enc P f false true false false W args (.bool true) W':=by
 have hW':=hW
 obtain ⟨p,q,h1,h2,rfl,h4,h5⟩:=hW
 rw [hvars] at h2
 have hgs:gs= []∧q= []:=by
  cases gs with
  | nil=>exact ⟨rfl,h2⟩
  | cons g gs=>exact h2.elim
 obtain ⟨rfl,rfl⟩:=hgs
 simp only [List.append_nil] at hres hargs hsv hW' ⊢
 have hlt:∀x∈p,x.block<W.heap.size:=fun x hx=>hW'.lt x hx
 refine ⟨ds,[],p,[],p,[],hW',?_,?_,?_,hb.frame _,(fun h=>by cases h)⟩
 ·simp only [List.append_nil]
  rw [hres,hrt]
  exact trodAll_mk1 (shut_bool htb true)
 ·simp only [List.append_nil]
  rw [hargs]
  exact trodAll_below hl hb _ _ _ _ hts h1 hlt
 ·simp only [List.append_nil]
  rw [hsv,hvars]
  rfl
theorem open_two {w:World} {base:Nat} {spare:Nat→Bool} {held:Bool} {t e:TypeId} {f0 f1:Field} {fuel:Nat} {cs:List Value} {x:DataW H×List MemPlace}
 (ht:P.underlying t=some (.slice e)) (he:P.underlying e=some (.struct #[f0,f1])) (o0:f0.offset=0) (o1:f1.offset=1) (k0:P.cellsOf f0.type=1) (k1:P.cellsOf f1.type=1) (hC:P.cellsOf e=2)
 (h:DataW.trod enc P w base spare held fuel t cs=some x):
 (cs= [.slice none 0 0])∨
 ∃(a:Addr) (len cap:Nat),cs= [.slice (some a) len cap]∧len≤cap∧cap≤maxLen∧∀i,i<len→∃v0 v1 n y0 y1,w.cell? (a.add (i*2))=some v0∧w.cell? ((a.add (i*2)).add 1)=some v1∧
  DataW.trod enc P w base spare held n f0.type [v0]=some y0∧DataW.trod enc P w base spare held n f1.type [v1]=some y1:=by
 rcases Go.Deep.open_slice ht h with h0 | ⟨a,len,cap,m,n,D,Pl,hcs,hb,hl,hm,hmm,hx,hi⟩
 ·exact .inl h0.1
 ·refine .inr ⟨a,len,cap,hcs,hl,hm,fun i hil=>?_⟩
  obtain ⟨cs',hc,ht'⟩:=hi i (by rw [hmm];split<;>omega)
  rw [hC] at hc
  obtain ⟨_,hlen,hat⟩:=World.cells?_some hc
  match cs',hlen with
  | [v0,v1],_=>
    obtain ⟨ys,n',_,hy,_,hyl,hf⟩:=DataW.trod_struct he ht'
    match ys,hyl with
    | [y0,y1],_=>
      have g0:=hf 0 f0 rfl
      have g1:=hf 1 f1 rfl
      rw [o0,k0] at g0
      rw [o1,k1] at g1
      have c0:=hat 0 (by omega)
      have c1:=hat 1 (by omega)
      refine ⟨v0,v1,n',y0,y1,?_,c1,g0,g1⟩
      simpa [Addr.add] using c0
end
end Go.Proofs.YthohnjgnpapnoaaGreatDoor
namespace Go.Proofs.YthohnjgnpapnoaaGreatDoor
open Go.RowKit
def RowC (w:World) (t b off n:Nat) (F:Nat→Int×Int):Prop:=
 ∃cs,Blk w b t cs∧off+n*2≤cs.size∧∀i,i<n→cs[off+i*2]? =some (.int .i64 (F i).1)∧cs[off+i*2+1]? =some (.int .i64 (F i).2)
def flat (l:List (Int×Int)):List Value:=l.flatMap fun c=>[.int .i64 c.1,.int .i64 c.2]
theorem flat_length (l:List (Int×Int)):(flat l).length=l.length*2:=by
 induction l with
 | nil=>rfl
 | cons a r ih=>simp only [flat,List.flatMap_cons,List.length_append,List.length_cons,List.length_nil] at ih ⊢;omega
theorem flat_append (l m:List (Int×Int)):flat (l++m)=flat l++flat m:=by simp [flat]
theorem flat_get (l:List (Int×Int)):∀(i:Nat) (c:Int×Int),l[i]? =some c→(flat l)[i*2]? =some (.int .i64 c.1)∧(flat l)[i*2+1]? =some (.int .i64 c.2):=by
 induction l with
 | nil=>intro i c h;simp at h
 | cons a r ih=>
   intro i c h
   match i,h with
   | 0,h=>simp at h;subst h;simp [flat]
   | i+1,h=>
     have:=ih i c (by simpa using h)
     rw [show flat (a::r)= [.int .i64 a.1,.int .i64 a.2]++flat r from rfl]
     rw [show (i+1)*2=i*2+2 by omega,List.getElem?_append_right (by simp),List.getElem?_append_right (by simp)]
     simpa using this
theorem flat_mem {l:List (Int×Int)} {u:Value} (h:u∈flat l):∃n,u= .int .i64 n:=by
 simp only [flat,List.mem_flatMap,List.mem_cons,List.not_mem_nil,or_false] at h
 obtain ⟨c,_,h | h⟩:=h
 ·exact ⟨_,h⟩
 ·exact ⟨_,h⟩
theorem flat_one {l:List (Int×Int)}:∀u∈flat l,u.oneCell'=true:=fun u hu=>by obtain ⟨n,rfl⟩:=flat_mem hu;rfl
section
variable {w w' : World} {t b off n : Nat} {F : Nat → Int × Int}
theorem RowC.cell1 (h:RowC w t b off n F) {i:Nat} (hi:i<n):w.cell? ⟨b,off+i*2,none⟩=some (.int .i64 (F i).1):=by
 obtain ⟨cs,h1,_,h3⟩:=h;rw [h1.cell];exact (h3 i hi).1
theorem RowC.cell2 (h:RowC w t b off n F) {i:Nat} (hi:i<n):w.cell? ⟨b,off+i*2+1,none⟩=some (.int .i64 (F i).2):=by
 obtain ⟨cs,h1,_,h3⟩:=h;rw [h1.cell];exact (h3 i hi).2
theorem RowC.frozen (h:RowC w t b off n F) (j:Nat):w.frozen? ⟨b,j,none⟩=false:=by
 obtain ⟨cs,h1,_,_⟩:=h;exact h1.frozen j
theorem RowC.lt (h:RowC w t b off n F):b<w.heap.size:=by obtain ⟨cs,h1,_,_⟩:=h;exact h1.lt
theorem RowC.of_block (h:RowC w t b off n F) (e:w'.heap[b]? =w.heap[b]?):RowC w' t b off n F:=by
 obtain ⟨cs,h1,h2,h3⟩:=h;exact ⟨cs,e.trans h1,h2,h3⟩
theorem RowC.congr {G:Nat→Int×Int} (h:RowC w t b off n F) (e:∀i,i<n→F i=G i):RowC w t b off n G:=by
 obtain ⟨cs,h1,h2,h3⟩:=h;exact ⟨cs,h1,h2,fun i hi=>by rw [←e i hi];exact h3 i hi⟩
theorem RowC.drewN (h:RowC w t b off n F) (k:Nat):RowC (w.drewN k) t b off n F:=h
theorem RowC.alloc (h:RowC w t b off n F) (o:Obj):RowC (w.alloc o) t b off n F:=h.of_block (Below.heap_alloc w o b h.lt)
theorem RowC.far (h:RowC w t b off n F) {p:Addr} (hp:b≠p.block) (u:Value):RowC (w.setCell p u) t b off n F:=h.of_block (Below.heap_setCell w p u b hp)
theorem RowC.set (h:RowC w t b off n F) {i:Nat} (_hi:i<n) (x y:Int):
 RowC ((w.setCell ⟨b,off+i*2,none⟩ (.int .i64 x)).setCell ⟨b,off+i*2+1,none⟩ (.int .i64 y)) t b off n (fun j=>if j=i then (x,y) else F j):=by
 obtain ⟨cs,h1,h2,h3⟩:=h
 refine ⟨_,(h1.set _ _).set _ _,by simpa using h2,fun j hj=>?_⟩
 by_cases e:j=i
 ·subst e
  simp only [if_true]
  constructor
  ·rw [Array.getElem?_setIfInBounds_ne (by omega),Array.getElem?_setIfInBounds_self_of_lt (by omega)]
  ·rw [Array.getElem?_setIfInBounds_self_of_lt (by simp;omega)]
 ·simp only [if_neg e]
  rw [Array.getElem?_setIfInBounds_ne (by omega),Array.getElem?_setIfInBounds_ne (by omega),Array.getElem?_setIfInBounds_ne (by omega),Array.getElem?_setIfInBounds_ne (by omega)]
  exact h3 j hj
theorem RowC.sl (h:RowC w t b off n F) {m cap:Nat} (hm:m≤cap) (hc:cap≤n) (hM:cap≤maxLen):Sl w t 2 (.slice (some ⟨b,off,none⟩) m cap) m (flat ((List.range m).map F)):=by
 obtain ⟨cs,h1,h2,h3⟩:=h
 have hlen:(flat ((List.range m).map F)).length=m*2:=by rw [flat_length];simp
 refine ⟨hlen,_,_,rfl,hm,hM,(fun h=>nomatch h),fun a ha=>?_⟩
 injection ha with ha;subst ha
 refine ⟨cs,rfl,h1,by show off+cap*2≤_;omega,?_⟩
 apply List.ext_getElem?
 intro j
 show ((cs.toList.drop off).take (m*2))[j]? =_
 by_cases hj:j<m*2
 ·rw [List.getElem?_take_of_lt hj,List.getElem?_drop]
  have hq:((List.range m).map F)[j/2]? =some (F (j/2)):=by
   rw [List.getElem?_map,List.getElem?_range (by omega)];rfl
  obtain ⟨g1,g2⟩:=flat_get _ (j/2) _ hq
  obtain ⟨k1,k2⟩:=h3 (j/2) (by omega)
  rcases (show j=j/2*2∨j=j/2*2+1 by omega) with e | e
  ·rw [e,g1];simpa using k1
  ·rw [e,g2];simpa [Nat.add_assoc] using k2
 ·rw [List.getElem?_eq_none (by simp;omega),List.getElem?_eq_none (by omega)]
theorem Sl.rowC {m cap:Nat} {l:List (Int×Int)} (h:Sl w t 2 (.slice (some ⟨b,off,none⟩) m cap) m (flat l)):RowC w t b off m (fun i=>l[i]!)∧l.length=m:=by
 obtain ⟨h1,A,cap',e,h2,h3,h4,h5⟩:=h
 injection e with e1 e2 e3
 subst e1 e3
 obtain ⟨cs,c1,c2,c3,c4⟩:=h5 _ rfl
 have hl:l.length=m:=by rw [flat_length] at h1;omega
 have c3':off+cap*2≤cs.size:=c3
 refine ⟨⟨cs,c2,by omega,fun i hi=>?_⟩,hl⟩
 have hq:l[i]? =some l[i]! :=by rw [List.getElem!_eq_getElem?_getD,List.getElem?_eq_getElem (by omega)];rfl
 obtain ⟨g1,g2⟩:=flat_get l i _ hq
 rw [←c4] at g1 g2
 rw [List.getElem?_take_of_lt (by omega),List.getElem?_drop] at g1 g2
 exact ⟨by simpa using g1,by simpa [Nat.add_assoc] using g2⟩
end
theorem Rd.pairs {w:World} {B n:Nat} {v:Value} {l:List (Int×Int)} (h:Rd w B 2 v n (flat l)):l.length=n∧
 (0<n→∃b off cap,v= .slice (some ⟨b,off,none⟩) n cap∧n≤cap∧cap≤maxLen∧b<B∧∀i,i<n→w.cell? ⟨b,off+i*2,none⟩=some (.int .i64 (l[i]!).1)∧w.cell? ⟨b,off+i*2+1,none⟩=some (.int .i64 (l[i]!).2)):=by
 have hl:l.length=n:=by have:=h.1;rw [flat_length] at this;omega
 refine ⟨hl,fun hn=>?_⟩
 obtain ⟨b,off,cap,e,h1,h2,h3,h4⟩:=h.at hn
 refine ⟨b,off,cap,e,h1,h2,h3,fun i hi=>?_⟩
 have hq:l[i]? =some l[i]! :=by rw [List.getElem!_eq_getElem?_getD,List.getElem?_eq_getElem (by omega)];rfl
 obtain ⟨g1,g2⟩:=flat_get l i _ hq
 exact ⟨h4 _ _ g1,by rw [Nat.add_assoc];exact h4 _ _ g2⟩
theorem flat_drop (l:List (Int×Int)):∀k,flat (l.drop k)=(flat l).drop (k*2):=by
 induction l with
 | nil=>intro k;simp [flat]
 | cons a r ih=>
   intro k
   cases k with
   | zero=>simp
   | succ k=>
     rw [List.drop_succ_cons,ih k]
     show _=(.int .i64 a.1:: .int .i64 a.2::flat r).drop _
     rw [show (k+1)*2=k*2+1+1 by omega,List.drop_succ_cons,List.drop_succ_cons]
theorem flat_take (l:List (Int×Int)):∀k,flat (l.take k)=(flat l).take (k*2):=by
 induction l with
 | nil=>intro k;simp [flat]
 | cons a r ih=>
   intro k
   cases k with
   | zero=>simp [flat]
   | succ k=>
     rw [List.take_succ_cons]
     show .int .i64 a.1:: .int .i64 a.2::flat (r.take k)=(.int .i64 a.1:: .int .i64 a.2::flat r).take _
     rw [ih k,show (k+1)*2=k*2+1+1 by omega,List.take_succ_cons,List.take_succ_cons]
theorem Rd.cut {w:World} {B b off n cap k:Nat} {l:List (Int×Int)} (h:Rd w B 2 (.slice (some ⟨b,off,none⟩) n cap) n (flat l)) (hk:k≤n):
 Rd w B 2 (.slice (some ⟨b,off+k*2,none⟩) (n-k) (cap-k)) (n-k) (flat (l.drop k)):=by
 obtain ⟨h1,A,cap',e,h2,h3,h4⟩:=h
 injection e with e1 _ e3
 subst e1 e3
 rw [flat_drop]
 refine ⟨by rw [List.length_drop,h1];omega,_,_,rfl,by omega,by omega,fun hn=>?_⟩
 obtain ⟨b',off',e4,hb,hc⟩:=h4 (by omega)
 injection e4 with e4
 injection e4 with e5 e6 _
 subst e5 e6
 refine ⟨_,_,rfl,hb,fun j u hj=>?_⟩
 rw [List.getElem?_drop] at hj
 have:=hc _ u hj
 rwa [←Nat.add_assoc] at this
theorem Rd.upto {w:World} {B n cap k:Nat} {A:Option Addr} {l:List (Int×Int)} (h:Rd w B 2 (.slice A n cap) n (flat l)) (hk:k≤n):
 Rd w B 2 (.slice A k cap) k (flat (l.take k)):=by
 obtain ⟨h1,A',cap',e,h2,h3,h4⟩:=h
 injection e with e1 _ e3
 subst e1 e3
 rw [flat_take]
 refine ⟨by rw [List.length_take,h1];omega,_,_,rfl,by omega,h3,fun hn=>?_⟩
 obtain ⟨b',off',e4,hb,hc⟩:=h4 (by omega)
 refine ⟨_,_,e4,hb,fun j u hj=>?_⟩
 rw [List.getElem?_take] at hj
 split at hj
 ·exact hc _ u hj
 ·cases hj
theorem range_map_get (l:List (Int×Int)):(List.range l.length).map (fun i=>l[i]!)=l:=by
 apply List.ext_getElem
 ·simp
 ·intro i h1 h2;simp [List.getElem!_eq_getElem?_getD,List.getElem?_eq_getElem h2]
end Go.Proofs.YthohnjgnpapnoaaGreatDoor
namespace Go.Proofs.YthohnjgnpapnoaaGreatDoor
open Go.RowKit Go.ChangeShapes Go.WideShapes
theorem Tryz.cellS:∃f0 f1,Tryz.prog.underlying 109=some (.struct #[f0,f1])∧f0.offset=0∧f1.offset=1∧f0.type=3∧f1.type=3:=by
 exact ⟨_,_,Tryz.underlying109,rfl,rfl,rfl,rfl⟩
theorem Tryz.cellsInt:Tryz.prog.cellsOf 3=1:=by kernel_rfl
theorem Tryz.cellsCell:Tryz.prog.cellsOf 109=2:=by kernel_rfl
theorem slice_len {H:Type} {enc:TypeId×Value→H} {P:Program} {w:World} {base:Nat} {spare:Nat→Bool} {held:Bool} {t e:TypeId} {fuel:Nat} {a:Addr} {len cap:Nat} {x:DataW H×List MemPlace}
 (ht:P.underlying t=some (.slice e)) (h:DataW.trod enc P w base spare held fuel t [.slice (some a) len cap]=some x):∃elems rest,x.1= .slice elems rest∧elems.length=len:=by
 rcases Go.Deep.open_slice ht h with h0 | ⟨a',len',cap',m,n,D,Pl,hcs,hb,hl,hm,hmm,hx,hi⟩
 ·simp at h0
 ·injection hcs with hcs
  injection hcs with _ e2 _
  subst e2
  subst hx
  exact ⟨_,_,rfl,by simp⟩
def inC (c:Int×Int):Prop:=(-9223372036854775808≤c.1∧c.1≤9223372036854775807)∧(-9223372036854775808≤c.2∧c.2≤9223372036854775807)
theorem flat_of_cells (W:World) (b off:Nat) (l:List (Int×Int))
 (h:∀i,i<l.length→W.cell? ⟨b,off+i*2,none⟩=some (.int .i64 l[i]!.1)∧W.cell? ⟨b,off+i*2+1,none⟩=some (.int .i64 l[i]!.2)):
 ∀j u,(flat l)[j]? =some u→W.cell? ⟨b,off+j,none⟩=some u:=by
 intro j u hj
 have hjl:j<(flat l).length:=by
  rcases Nat.lt_or_ge j (flat l).length with h | h
  ·exact h
  ·rw [List.getElem?_eq_none h] at hj;cases hj
 rw [flat_length] at hjl
 have hi:j/2<l.length:=by omega
 have hg:l[j/2]? =some l[j/2]! :=by rw [List.getElem!_eq_getElem?_getD,List.getElem?_eq_getElem hi];simp
 obtain ⟨g1,g2⟩:=flat_get l (j/2) _ hg
 obtain ⟨k1,k2⟩:=h (j/2) hi
 rcases Nat.mod_two_eq_zero_or_one j with e | e
 ·have e':j=j/2*2:=by omega
  rw [e'] at hj
  rw [hj] at g1
  rw [e']
  rw [g1];exact k1
 ·have e':j=j/2*2+1:=by omega
  rw [e'] at hj
  rw [hj] at g2
  rw [e']
  rw [g2];exact k2
end Go.Proofs.YthohnjgnpapnoaaGreatDoor
namespace Go.Proofs.YthohnjgnpapnoaaGreatDoor
open Go.Lib
end Go.Proofs.YthohnjgnpapnoaaGreatDoor
namespace Go.Proofs.YthohnjgnpapnoaaGreatDoor
open Go.Lib
def lowC (c:UInt8):Bool:=decide (97≤c.toNat∧c.toNat≤122)
def digC (c:UInt8):Bool:=decide (48≤c.toNat∧c.toNat≤57)
def namedW (s:List UInt8):Bool:=s.all lowC&& !s.isEmpty&&decide (s.length≤12)
def keyedW (s:List UInt8):Bool:=decide (2≤s.length∧s.length≤41)&&decide (s.head? =some 33)&&(s.drop 1).all fun c=>lowC c || digC c
structure SReq where
 verb:Int
 name:List UInt8
 other:List UInt8
 b:Int
 l:Int
 n:Int
 cells:List (Int×Int)
section
--how a rule is read (its error 0:it is one) and written
variable (rd : List UInt8 → Int × Int × Int) (tx : Int → Int → List UInt8)
end
end Go.Proofs.YthohnjgnpapnoaaGreatDoor
namespace Go.Proofs.YthohnjgnpapnoaaGreatDoor
open Go.Lib
section
variable (rd : List UInt8 → Int × Int × Int) (tx : Int → Int → List UInt8)
end
end Go.Proofs.YthohnjgnpapnoaaGreatDoor
namespace Go.Proofs.YthohnjgnpapnoaaGreatDoor
open Go.RowKit
section
variable {P : Program} (w : World)
theorem wp_append_sl {o:Oper} {a:Act} {K:Act→World→Prop} {Q:Exit→Act→World→Prop} (s x:Operand) (t:TypeId)
 (ho:o.op= .call {callee:= .builtin .append,args:=#[s,x],argTypes:=#[t,t]})
 (e:TypeId) (z:Value) (sz bytes:Nat) (ht:P.underlying t=some (.slice e)) (hinfo:(P.info? e).map (fun i=>(i.zero,i.size,i.bytes))=some (some z,sz,bytes))
 (hzs:z.cells.size=sz) (hsz:0<sz)
 {v:Value} {n:Nat} {xs:List Value} (hs:a.eval s=v) (hv:Sl w e sz v n xs)
 {B m:Nat} {xv:Value} {news:List Value} (hx:a.eval x=xv) (hr:Rd w B sz xv m news) (h1:∀u∈news,u.oneCell'=true)
 (hbytes:(n+m)*bytes≤140737488355328) (h63:n+m≤maxLen)
 (h:∀v' w',Sl w' e sz v' (n+m) (xs++news)→Mod (fun b=>sblk v=some b) w w'→(sblk v'=sblk v∨sblk v'=some w.heap.size∧w.heap.size<w'.heap.size)→K (a.put o.dst v') w'):o.wp P a w K Q:=by
 obtain ⟨i,hi,h2,h3,h4⟩:∃i,P.info? e=some i∧i.zero=some z∧i.size=sz∧i.bytes=bytes:=by
  cases hh:P.info? e with
  | none=>simp [hh] at hinfo
  | some i=>simp [hh] at hinfo;exact ⟨i,rfl,hinfo.1,hinfo.2.1,hinfo.2.2⟩
 obtain ⟨v',w',hrun,r2,r3,r4⟩:=run_append_sl (P:=P) w t o.type e i z sz bytes ht hi h2 h3 h4 hzs hsz hv hr h1 hbytes h63
 unfold Oper.wp execOp
 simp only [ho,resolve,invoke,builtin,Sem.run_bind,Sem.run_pure,Result.andThen_ok,List.map_toArray,List.map_cons,List.map_nil,hs,hx,hrun]
 exact h v' w' r2 r3 r4
theorem wpList_append_sl {ops:Array Oper} {rest:List Oper} {o:Oper} {a:Act} {Q:Exit→Act→World→Prop} (hgd:o.guard=none) (s x:Operand) (t:TypeId)
 (ho:o.op= .call {callee:= .builtin .append,args:=#[s,x],argTypes:=#[t,t]})
 (e:TypeId) (z:Value) (sz bytes:Nat) (ht:P.underlying t=some (.slice e)) (hinfo:(P.info? e).map (fun i=>(i.zero,i.size,i.bytes))=some (some z,sz,bytes))
 (hzs:z.cells.size=sz) (hsz:0<sz)
 {v:Value} {n:Nat} {xs:List Value} (hs:a.eval s=v) (hv:Sl w e sz v n xs)
 {B m:Nat} {xv:Value} {news:List Value} (hx:a.eval x=xv) (hr:Rd w B sz xv m news) (h1:∀u∈news,u.oneCell'=true)
 (hbytes:(n+m)*bytes≤140737488355328) (h63:n+m≤maxLen)
 (h:∀v' w',Sl w' e sz v' (n+m) (xs++news)→Mod (fun b=>sblk v=some b) w w'→(sblk v'=sblk v∨sblk v'=some w.heap.size∧w.heap.size<w'.heap.size)→wpList P ops Q rest (a.put o.dst v') w'):
 wpList P ops Q (o::rest) a w:=
 wpList_plain hgd fun _ hK=>wp_append_sl w s x t ho e z sz bytes ht hinfo hzs hsz hs hv hx hr h1 hbytes h63 fun v' w' h2 h3 h4=>hK _ _ (h v' w' h2 h3 h4)
theorem step_append_sl {ops:Array Oper} {o:Oper} {a:Act} {K:Act→World→Prop} {Q:Exit→Act→World→Prop} {E:Prop} (hgd:o.guard=none) (s x:Operand) (t:TypeId)
 (ho:o.op= .call {callee:= .builtin .append,args:=#[s,x],argTypes:=#[t,t]})
 (e:TypeId) (z:Value) (sz bytes:Nat) (ht:P.underlying t=some (.slice e)) (hinfo:(P.info? e).map (fun i=>(i.zero,i.size,i.bytes))=some (some z,sz,bytes))
 (hzs:z.cells.size=sz) (hsz:0<sz)
 {v:Value} {n:Nat} {xs:List Value} (hs:a.eval s=v) (hv:Sl w e sz v n xs)
 {B m:Nat} {xv:Value} {news:List Value} (hx:a.eval x=xv) (hr:Rd w B sz xv m news) (h1:∀u∈news,u.oneCell'=true)
 (hbytes:(n+m)*bytes≤140737488355328) (h63:n+m≤maxLen)
 (h:∀v' w',Sl w' e sz v' (n+m) (xs++news)→Mod (fun b=>sblk v=some b) w w'→(sblk v'=sblk v∨sblk v'=some w.heap.size∧w.heap.size<w'.heap.size)→K (a.put o.dst v') w'):
 if Region.wanted o (yielded ops a.tmps)=true then Oper.wp P o a w K Q else E:=by
 have hw:Region.wanted o (yielded ops a.tmps)=true:=by simp [Region.wanted,hgd]
 rw [if_pos hw]
 exact wp_append_sl w s x t ho e z sz bytes ht hinfo hzs hsz hs hv hx hr h1 hbytes h63 h
end
theorem fresh_of {w w1 w':World} {v v':Value} (hm:Mod (fun b=>sblk v=some b) w1 w') (hd:sblk v'=sblk v∨sblk v'=some w1.heap.size∧w1.heap.size<w'.heap.size)
 (hb:Below w.heap.size w w1) (hv:∀b,sblk v=some b→w.heap.size≤b):(∀b,sblk v'=some b→w.heap.size≤b)∧Below w.heap.size w w':=by
 refine ⟨fun b hb'=>?_,hb.trans (hm.below hb.size fun b hlt he=>?_)⟩
 ·rcases hd with e | ⟨e,_⟩
  ·exact hv b (by rw [←e];exact hb')
  ·rw [e] at hb';injection hb' with hb';have:=hb.size;omega
 ·have:=hv b he;omega
end Go.Proofs.YthohnjgnpapnoaaGreatDoor
namespace Go.Proofs.YthohnjgnpapnoaaGreatDoor
open Go.RowKit
def str (l:List UInt8):ByteArray:=⟨l.toArray⟩
theorem str_size (l:List UInt8):(str l).size=l.length:=by simp [str,ByteArray.size]
theorem str_toList (s:List UInt8):(str s).toList=s:=by rw [ByteArray.toList_eq];simp [str]
theorem str_append (a b:List UInt8):str a++str b=str (a++b):=by
 apply ByteArray.ext;simp [str]
def bytesV (l:List UInt8):List Value:=l.map fun c=> .int .u8 c.toNat
theorem foldl_push (l:List UInt8):∀s:ByteArray,(l.map fun c=>((c.toNat:Nat):Int)).foldl (fun r n=>r.push (UInt8.ofNat n.toNat)) s=⟨s.data++l.toArray⟩:=by
 induction l with
 | nil=>intro s;simp
 | cons c r ih=>
   intro s
   simp only [List.map_cons,List.foldl_cons,ih]
   congr 1
   simp [ByteArray.push]
theorem run_bytes_str {w:World} {B n:Nat} {v:Value} {l:List UInt8} (src dst e:TypeId) (hs:Tryz.prog.underlying src=some (.slice e)) (he:Tryz.prog.underlying e=some (.int .u8)) (hd:Tryz.prog.underlying dst=some .string)
 (h:Rd w B 1 v n (bytesV l)):(convert src dst v).run Tryz.prog w= .ok (.string (str l)) w:=by
 obtain ⟨hl,A,cap,rfl,_,_,hat⟩:=h
 have hn:l.length=n:=by simpa [bytesV] using hl
 rw [run_convert_bytes_string w src dst e A n cap hs he hd]
 rcases Nat.eq_zero_or_pos n with h0 | h0
 ·subst h0
  have hl0:l= []:=List.eq_nil_of_length_eq_zero hn
  subst hl0
  cases A with
  | none=>unfold Conv.bytesToString;simp [Sem.run_pure,str];rfl
  | some a=>
    have:=run_bytesToString (P:=Tryz.prog) w a 0 cap [] (by simpa using run_loadCells_list (P:=Tryz.prog) w a [] (fun j v h=>by simp at h))
    rw [this];rfl
 ·obtain ⟨b,off,rfl,_,hc⟩:=hat h0
  have:=run_bytesToString (P:=Tryz.prog) w ⟨b,off,none⟩ n cap (l.map fun c=>((c.toNat:Nat):Int)) (by
   have:=run_loadCells_list (P:=Tryz.prog) w ⟨b,off,none⟩ (bytesV l) (fun j v h=>by rw [Addr.add_lit];exact hc j v h)
   rw [hl,Nat.mul_one] at this
   rw [this]
   simp [bytesV,List.map_map,Function.comp_def])
  rw [this,foldl_push]
  simp [str]
end Go.Proofs.YthohnjgnpapnoaaGreatDoor
namespace Go.Proofs.YthohnjgnpapnoaaGreatDoor
end Go.Proofs.YthohnjgnpapnoaaGreatDoor
namespace Go.Proofs.YthohnjgnpapnoaaGreatDoor
open Go.RowKit
theorem all_step {f:UInt8→Bool} {s:List UInt8} {i:Nat} (hi:i<s.length) (h:(s.take i).all f=true) (hc:f (s[i])=true):(s.take (i+1)).all f=true:=by
 rw [List.take_succ_eq_append_getElem hi,List.all_append,h]
 simp [hc]
theorem all_fail {f:UInt8→Bool} {s:List UInt8} {i:Nat} (hi:i<s.length) (hc:f (s[i])=false):s.all f=false:=by
 rw [List.all_eq_false]
 exact ⟨s[i],List.getElem_mem hi,by rw [hc];simp⟩
theorem str_ne_nil (s:List UInt8):(str s).toList.isEmpty=s.isEmpty:=by rw [str_toList]
set_option maxRecDepth 100000 in
set_option maxHeartbeats 3200000 in
theorem named_any (w:World) (s:List UInt8) (hl:s.length≤4294967296):
 Calls Tryz.prog 102 #[.string (str s)] w fun e w'=>e= .returned (.bool (namedW s))∧w=w':=by
 have hz:((str s).size:Int)=(s.length:Int):=by rw [str_size]
 have hlb:(s.length:Int)≤4294967296:=by omega
 have HNE:=Lib.hid (str_ne_nil s)
 go_enter Tryz.func102,Tryz.ntmps102
 go_wp2_with fail
 go_loopw [3] (fun iv wx=>∃i:Nat,iv= .int .i64 i∧i≤s.length∧(s.take i).all lowC=true∧wx=w) (fun iv _=>s.length-(intOf iv).toNat)
 case atStart=>exact ⟨0,rfl,Nat.zero_le _,rfl,rfl⟩
 case round=>
  obtain ⟨i,rfl,hi2,ha,rfl⟩:=hrel
  by_cases hin:i<s.length
  ·have hlt:(i:Int)<(s.length:Int):=by omega
   have hidx:(Instr.index 9 (.string (str s)) (.int .i64 (i:Int))).run Tryz.prog wr= .ok (.int .u8 ((s[i]).toNat:Int)) wr:=by
    rw [run_index_string wr _ _ _ _ Tryz.underlying9,dif_pos ⟨by omega,by rw [hz];omega⟩]
    rfl
   have hwi:IntKind.i64.wrap ((i:Int)+1)=(i:Int)+1:=by rw [IntKind.wrap_i64];omega
   have HA:=Lib.hid (fun hc=>all_step hin ha (f:=lowC) hc)
   have HF:=Lib.hid (fun hc=>all_fail hin (f:=lowC) hc)
   have HIN:=Lib.hid hin
   generalize s[i]=c at HA HF hidx
   clear ha hin
   by_cases k1:(c.toNat:Int)<97
   ·have HL:Hid (lowC c=false):=decide_eq_false (by omega)
    go_wp2_with fail
    go_ret
    exact ⟨by rw [namedW,HF.out HL.out];rfl,rfl⟩
   ·by_cases k2:122<(c.toNat:Int)
    ·have HL:Hid (lowC c=false):=decide_eq_false (by omega)
     go_wp2_with fail
     go_ret
     exact ⟨by rw [namedW,HF.out HL.out];rfl,rfl⟩
    ·have HL:Hid (lowC c=true):=decide_eq_true (by omega)
     go_wp2_with fail
     refine ⟨⟨i+1,by go_num,HIN.out,HA.out HL.out,trivial⟩,?_⟩
     simp [intOf];have:=HIN.out;omega
  ·have hge:(s.length:Int)≤(i:Int):=by omega
   rw [List.take_of_length_le (by omega)] at ha
   have HAA:=Lib.hid ha
   have hne:=HNE.out
   clear ha
   cases he:s.isEmpty
   ·rw [he] at hne
    have HE:=Lib.hid he
    clear he
    by_cases h12:(s.length:Int)≤12
    ·have HD:Hid (decide (s.length≤12)=true):=decide_eq_true (by omega)
     go_wp2_with fail
     go_ret
     exact ⟨by rw [namedW,HAA.out,HE.out,HD.out];rfl,rfl⟩
    ·have HD:Hid (decide (s.length≤12)=false):=decide_eq_false (by omega)
     go_wp2_with fail
     go_ret
     exact ⟨by rw [namedW,HAA.out,HE.out,HD.out];rfl,rfl⟩
   ·rw [he] at hne
    have HE:=Lib.hid he
    clear he
    go_wp2_with fail
    go_ret
    exact ⟨by rw [namedW,HAA.out,HE.out];rfl,rfl⟩
end Go.Proofs.YthohnjgnpapnoaaGreatDoor
