/- leap: what a leap asks for lies in a list that has all its windows. No program is named here. · leap: how many squares and notes a leap of cells in a box asks for. No program is named here. · leap: how few squares and notes a leap of cells in a small box asks for, the lowest levels counted too. No program is named here. · HallRoomy: the law: small universes never want too much. No program is walked here. · lifelodgekeep: HallRoomy, the walk. -/
import Derived.Test.YthohnjgnpapnoaaGreatDoorR35
import Derived.Test.YthohnjgnpapnoaaGreatDoorR34
set_option linter.unusedVariables false
set_option linter.unusedSimpArgs false
namespace Go.Proofs.YthohnjgnpapnoaaGreatDoor
open Go.RowKit
section
variable {b l : Int} {P : Int → Int → Bool} {j M : Nat} {V W : List Thing}
theorem wins_mono (h:Wins b l P j M V) (hv:∀x∈V,x∈W):Wins b l P j M W where
 one:=fun Q x y=>hv _ (h.one Q x y)
 full:=fun m i x y hm hi hx hy=>⟨hv _ (h.full m i x y hm hi hx hy).1,fun hh=>hv _ ((h.full m i x y hm hi hx hy).2 hh)⟩
 up:=fun m x y hj hM hx hy=>⟨hv _ (h.up m x y hj hM hx hy).1,hv _ (h.up m x y hj hM hx hy).2⟩
 out:=fun m x y hj hM hx hy=>hv _ (h.out m x y hj hM hx hy)
theorem wins_sq (h:Wins b l P j M V) {m:Nat} (hm:m+2≤M) {x y:Int} (hx:(2:Int)^(m+1)∣x) (hy:(2:Int)^(m+1)∣y):sqOf (treeOf P (m+2) x y)∈V:=by
 by_cases hj:m+1≤j
 ·have:=(h.full m 0 x y hj (by rw [Nat.zero_mul];exact Nat.zero_le _) (by simpa using hx) (by simpa using hy)).1
  rw [show evN b l (0*2^m) P=P by rw [Nat.zero_mul];rfl] at this
  exact this
 ·exact (h.up m x y (by omega) hm (Int.dvd_trans (pow_dvd2 (Nat.le_succ m)) hx) (Int.dvd_trans (pow_dvd2 (Nat.le_succ m)) hy)).1
theorem wins_nodes (h:Wins b l P j M V):∀(n:Nat) (x y:Int),n≤M→(2:Int)^(n-1)∣x→(2:Int)^(n-1)∣y→∀t∈nodes (treeOf P n x y),t∈V
 | 0,x,y,_,_,_,t,ht=>by
   simp only [treeOf] at ht
   split at ht<;>simp [nodes] at ht
 | 1,x,y,_,_,_,t,ht=>by
   have leaf:∀a c,t∉nodes (treeOf P 0 a c):=fun a c h=>by
    simp only [treeOf] at h
    split at h<;>simp [nodes] at h
   have ht:=mem_nodes.1 ht
   rcases ht with rfl | h' | h' | h' | h'
   ·exact h.one _ x y
   ·exact absurd h' (leaf _ _)
   ·exact absurd h' (leaf _ _)
   ·exact absurd h' (leaf _ _)
   ·exact absurd h' (leaf _ _)
 | n+2,x,y,hn,hx,hy,t,ht=>by
   have hx:(2:Int)^(n+1)∣x:=hx
   have hy:(2:Int)^(n+1)∣y:=hy
   have hd:(2:Int)^(n+1-1)∣2^(n+1):=pow_dvd2 (by omega)
   have x0:=Int.dvd_trans hd hx
   have y0:=Int.dvd_trans hd hy
   have x1:=Int.dvd_add x0 hd
   have y1:=Int.dvd_add y0 hd
   have ht:=mem_nodes.1 ht
   rcases ht with rfl | h' | h' | h' | h'
   ·exact wins_sq h hn hx hy
   ·exact wins_nodes h (n+1) _ _ (by omega) x0 y0 t h'
   ·exact wins_nodes h (n+1) _ _ (by omega) x1 y0 t h'
   ·exact wins_nodes h (n+1) _ _ (by omega) x0 y1 t h'
   ·exact wins_nodes h (n+1) _ _ (by omega) x1 y1 t h'
theorem wins_root (h:Wins b l P j M V) {k:Nat} (hk:k<M):∀t∈nodes (rootT P k),t∈V:=fun t ht=>
 wins_nodes h (k+1) _ _ hk (Int.dvd_neg.2 (Int.dvd_refl _)) (Int.dvd_neg.2 (Int.dvd_refl _)) t ht
theorem wins_blank (h:Wins b l P j M V) {lo hi:Int} (hs:Span P lo hi) {m:Nat} (hm:m≤M):∀t∈nodes (emptyT m),t∈V:=fun t ht=>by
 have hz:=pow_pos2 m
 have e:treeOf P m (2^m*(hi.toNat:Nat)) (2^m*(hi.toNat:Nat))=emptyT m:=by
  refine span_empty hs fun hh=>?_
  have h3:(1:Int)*((hi.toNat:Nat):Int)≤2^m*((hi.toNat:Nat):Int):=Int.mul_le_mul_of_nonneg_right (by omega) (by omega)
  omega
 rw [←e] at ht
 have hd:(2:Int)^(m-1)∣2^m*((hi.toNat:Nat):Int):=Int.dvd_trans (pow_dvd2 (by omega)) (Int.dvd_mul_right _ _)
 exact wins_nodes h m _ _ hm hd hd t ht
theorem wins_leapC (h:Wins b l P j M V) {k:Nat} (hs:Supp P k) (hK:leapK k j<M):LeapC b l P k j V:=by
 have hK2:k+2≤leapK k j∧j+2≤leapK k j:=by unfold leapK;omega
 constructor
 ·have key:∀i,k+i≤leapK k j→∀x∈wrapsL P k i,x∈V:=by
   intro i
   induction i with
   | zero=>intro _ x hx;cases hx
   | succ i ih=>
     intro hi x hx
     rcases List.mem_append.1 hx with h' | h'
     ·exact ih (by omega) x h'
     ·rcases wrap_new x h' with q | q
      ·rw [(hs.up (Nat.le_add_right k i)).clip] at q
       exact wins_root h (by omega) x q
      ·exact wins_blank h (supp_span.1 hs) (by omega) x q
  exact key _ (by omega)
 ·obtain ⟨n,hn⟩:∃n,leapK k j=n+1:=⟨leapK k j-1,by omega⟩
  rw [hn]
  have hd:(2:Int)^n∣-2^(n+1):=Int.dvd_neg.2 (pow_dvd2 (by omega))
  exact clo_up h n _ _ (by omega) (by omega) hd hd
end
def levV (c s:Int) (l:List Tree):List Thing:=l.flatMap fun T=>[sqOf T,.note T c s]
theorem levV_len (c s:Int) (l:List Tree):(levV c s l).length=l.length*2:=flat_len fun _ _=>rfl
theorem levV_sq {c s:Int} {l:List Tree} {T:Tree} (h:T∈l):sqOf T∈levV c s l:=List.mem_flatMap.2 ⟨T,h,List.mem_cons_self⟩
theorem levV_note {c s:Int} {l:List Tree} {T:Tree} (h:T∈l):Thing.note T c s∈levV c s l:=List.mem_flatMap.2 ⟨T,h,List.mem_cons_of_mem _ List.mem_cons_self⟩
theorem mem_grid {n m:Nat} {f:Nat→Nat→Tree} {T:Tree} (i k:Nat) (hi:i<n) (hk:k<m) (e:T=f i k):T∈(List.range n).flatMap fun i=>(List.range m).map fun k=>f i k:=
 List.mem_flatMap.2 ⟨i,List.mem_range.2 hi,List.mem_map.2 ⟨k,List.mem_range.2 hk,e.symm⟩⟩
theorem grid_len (n m:Nat) (f:Nat→Nat→Tree):((List.range n).flatMap fun i=>(List.range m).map fun k=>f i k).length=n*m:=by
 rw [flat_len (c:=m) fun i _=>by simp,List.length_range]
end Go.Proofs.YthohnjgnpapnoaaGreatDoor
namespace Go.Proofs.YthohnjgnpapnoaaGreatDoor
open Go.RowKit
def Box2 (P:Int→Int→Bool) (lx ly:Int) (w:Nat):Prop:=∀a c,P a c=true→lx≤a∧a<lx+w∧ly≤c∧c<ly+w
theorem Box2.span {P:Int→Int→Bool} {lx ly:Int} {w:Nat} (h:Box2 P lx ly w):Span (moveP (-lx) (-ly) P) 0 w:=fun a c hp=>by
 have:=h _ _ hp
 omega
theorem Box2.of {P:Int→Int→Bool} {lx ly lo hi:Int} (h:Span (moveP (-lx) (-ly) P) lo hi) {w:Nat} (hw:hi-lo≤w):Box2 P (lx+lo) (ly+lo) w:=fun a c hp=>by
 have:=h (a-lx) (c-ly) (by unfold moveP;rw [show a-lx- -lx=a by omega,show c-ly- -ly=c by omega];exact hp)
 omega
theorem Box2.evN {b l:Int} (hg:goodR b l) {P:Int→Int→Bool} {lx ly:Int} {w:Nat} (h:Box2 P lx ly w) (m:Nat):Box2 (evN b l m P) (lx-m) (ly-m) (w+2*m):=by
 have h1:=Span.evN hg h.span m
 rw [evN_move] at h1
 have h2:=Box2.of h1 (w:=w+2*m) (by omega)
 rw [show lx+(0-(m:Int))=lx-m by omega,show ly+(0-(m:Int))=ly-m by omega] at h2
 exact h2
theorem Box2.empty {P:Int→Int→Bool} {lx ly:Int} {w:Nat} (h:Box2 P lx ly w) {n:Nat} {x y:Int} (hne:¬((lx-2^n<x∧x<lx+w)∧ly-2^n<y∧y<ly+w)):treeOf P n x y=emptyT n:=by
 refine treeOf_none fun a c hb=>?_
 unfold inB at hb
 cases q:P a c
 ·rfl
 ·have:=h a c q
  exact absurd ⟨⟨by omega,by omega⟩,by omega,by omega⟩ hne
theorem Box2.supp {P:Int→Int→Bool} {lx ly:Int} {w k:Nat} (h:Box2 P lx ly w) (hx1: -2^k≤lx) (hx2:lx+w≤2^k) (hy1: -2^k≤ly) (hy2:ly+w≤2^k):Supp P k:=fun a c hp=>by
 have:=h a c hp
 omega
def rowN (w n s:Nat):Nat:=(w+2^n)/s+1
def gridT (Q:Int→Int→Bool) (n:Nat) (r:Int) (s:Nat) (lx ly:Int) (w:Nat):List Tree:=
 emptyT n::(List.range (rowN w n s)).flatMap fun i:Nat=>(List.range (rowN w n s)).map fun k:Nat=>treeOf Q n (r+s*((lx-2^n-r)/s+1+(i:Int))) (r+s*((ly-2^n-r)/s+1+(k:Int)))
def cntG (w n s:Nat):Nat:=rowN w n s*rowN w n s+1
theorem gridT_len (Q:Int→Int→Bool) (n:Nat) (r:Int) (s:Nat) (lx ly:Int) (w:Nat):(gridT Q n r s lx ly w).length=cntG w n s:=by
 unfold gridT cntG
 rw [List.length_cons,grid_len]
theorem grid_place {n s w:Nat} {r lx a:Int} (hs:0<s) (h1:lx-2^n<r+s*a) (h2:r+s*a<lx+w):∃i:Nat,i<rowN w n s∧a=(lx-2^n-r)/s+1+(i:Int):=by
 have hz:(0:Int)<s:=by omega
 have e1:=Int.mul_ediv_add_emod (lx-2^n-r) s
 have e2:=Int.emod_nonneg (lx-2^n-r) (show (s:Int)≠0 by omega)
 have e3:=Int.emod_lt_of_pos (lx-2^n-r) hz
 generalize (lx-2^n-r)/(s:Int)=q at*
 have k2:(s:Int)*q<s*a:=by omega
 have k4:=Int.lt_of_mul_lt_mul_left k2 (by omega)
 obtain ⟨i,hi⟩:∃i:Nat,a=q+1+(i:Int):=⟨(a-q-1).toNat,by omega⟩
 refine ⟨i,?_,hi⟩
 subst hi
 have hp:((2^n:Nat):Int)=(2:Int)^n:=by simp
 have k5:(s:Int)*i<w+2^n:=by rw [Int.mul_add,Int.mul_add] at h2;omega
 have k6:s*i<w+2^n:=by
  have:((s*i:Nat):Int)<((w+2^n:Nat):Int):=by rw [Int.natCast_mul,Int.natCast_add,hp];exact k5
  omega
 unfold rowN
 exact Nat.lt_succ_of_le ((Nat.le_div_iff_mul_le hs).2 (by rw [Nat.mul_comm];omega))
theorem gridT_mem {Q:Int→Int→Bool} {n s w:Nat} {r lx ly:Int} (hs:0<s) (h:Box2 Q lx ly w) {x y:Int} (hx:(s:Int)∣x-r) (hy:(s:Int)∣y-r):treeOf Q n x y∈gridT Q n r s lx ly w:=by
 obtain ⟨a,ha⟩:=hx
 obtain ⟨c,hc⟩:=hy
 obtain rfl:x=r+s*a:=by omega
 obtain rfl:y=r+s*c:=by omega
 by_cases hh:(lx-2^n<r+s*a∧r+s*a<lx+w)∧ly-2^n<r+s*c∧r+s*c<ly+w
 ·obtain ⟨i,hi,ei⟩:=grid_place hs hh.1.1 hh.1.2
  obtain ⟨k,hk,ek⟩:=grid_place hs hh.2.1 hh.2.2
  refine List.mem_cons_of_mem _ (mem_grid i k hi hk ?_)
  rw [←ei,←ek]
 ·rw [h.empty hh]
  exact List.mem_cons_self
section
variable (b l : Int) (P : Int → Int → Bool) (lx ly : Int) (w j K : Nat)
def legU:List Thing:=(List.range K).flatMap fun d:Nat=>levV (codeR b l) (j:Int) (gridT P (j+d+2) 0 (2^(j+d)) lx ly w)
def legO:List Thing:=(List.range K).flatMap fun d:Nat=>(gridT (evN b l (2^j) P) (j+d+1) 0 (2^(j+d)) (lx-((2^j:Nat):Int)) (ly-((2^j:Nat):Int)) (w+2*2^j)).map sqOf
end
section
variable {b l : Int} {P : Int → Int → Bool} {lx ly : Int} {w j K M : Nat}
theorem cast_pow (k:Nat):((2^k:Nat):Int)=(2:Int)^k:=by simp
end
end Go.Proofs.YthohnjgnpapnoaaGreatDoor
namespace Go.Proofs.YthohnjgnpapnoaaGreatDoor
open Go.RowKit
section
variable (b l : Int) (P : Int → Int → Bool) (lx ly : Int) (w j K : Nat)
def fewF:List Thing:=(List.range j).flatMap fun m:Nat=>(List.range (2^(j-m)+1)).flatMap fun i:Nat=>levV (codeR b l) ((m:Nat):Int) (gridT (evN b l (i*2^m) P) (m+2) ((i*2^m:Nat):Int) (2^(m+1)) (lx-((i*2^m:Nat):Int)) (ly-((i*2^m:Nat):Int)) (w+2*(i*2^m)))
def fewV:List Thing:=onesL++(fewF b l P lx ly w j++(legU b l P lx ly w j K++legO b l P lx ly w j K))
end
def fewN (w j K:Nat):Nat:=
 16+(((List.range j).map fun m:Nat=>((List.range (2^(j-m)+1)).map fun i:Nat=>cntG (w+2*(i*2^m)) (m+2) (2^(m+1))*2).sum).sum+(((List.range K).map fun d:Nat=>cntG w (j+d+2) (2^(j+d))*2).sum+((List.range K).map fun d:Nat=>cntG (w+2*2^j) (j+d+1) (2^(j+d))).sum))
theorem fewV_len (b l:Int) (P:Int→Int→Bool) (lx ly:Int) (w j K:Nat):(fewV b l P lx ly w j K).length=fewN w j K:=by
 unfold fewV fewF legU legO fewN
 simp only [List.length_append,List.length_flatMap,List.length_map,levV_len,gridT_len,onesL_len]
section
variable {b l : Int} {P : Int → Int → Bool} {lx ly : Int} {w j K M : Nat}
theorem few_wins (hg:goodR b l) (h:Box2 P lx ly w) (hM:M≤j+K+1):Wins b l P j M (fewV b l P lx ly w j K) where
 one:=fun Q x y=>List.mem_append_left _ (onesL_mem Q x y)
 full:=fun m i x y hm hi hx hy=>by
  have hB:=Box2.evN hg h (i*2^m)
  have ec:((i*2^m:Nat):Int)=(i:Int)*2^m:=by simp
  have hT:=gridT_mem (n:=m+2) (s:=2^(m+1)) (r:=((i*2^m:Nat):Int)) (Nat.two_pow_pos _) hB (x:=x) (y:=y) (by rw [cast_pow,ec];exact hx) (by rw [cast_pow,ec];exact hy)
  have hi2:i≤2^(j-m):=by
   have e:2^j=2^(j-m)*2^m:=by rw [←Nat.pow_add];congr 1;omega
   rw [e] at hi
   exact Nat.le_of_mul_le_mul_right hi (Nat.two_pow_pos _)
  have key:∀z∈levV (codeR b l) ((m:Nat):Int) (gridT (evN b l (i*2^m) P) (m+2) ((i*2^m:Nat):Int) (2^(m+1)) (lx-((i*2^m:Nat):Int)) (ly-((i*2^m:Nat):Int)) (w+2*(i*2^m))),z∈fewV b l P lx ly w j K:=fun z hz=>
   List.mem_append_right _ (List.mem_append_left _ (List.mem_flatMap.2 ⟨m,List.mem_range.2 (by omega),List.mem_flatMap.2 ⟨i,List.mem_range.2 (by omega),hz⟩⟩))
  exact ⟨key _ (levV_sq hT),fun _=>key _ (levV_note hT)⟩
 up:=fun m x y hjm hm hx hy=>by
  obtain ⟨d,rfl⟩:∃d,m=j+d:=⟨m-j,by omega⟩
  have hT:=gridT_mem (n:=j+d+2) (s:=2^(j+d)) (r:=0) (Nat.two_pow_pos _) h (x:=x) (y:=y) (by rw [cast_pow];simpa using hx) (by rw [cast_pow];simpa using hy)
  have key:∀z∈levV (codeR b l) (j:Int) (gridT P (j+d+2) 0 (2^(j+d)) lx ly w),z∈fewV b l P lx ly w j K:=fun z hz=>
   List.mem_append_right _ (List.mem_append_right _ (List.mem_append_left _ (List.mem_flatMap.2 ⟨d,List.mem_range.2 (by omega),hz⟩)))
  exact ⟨key _ (levV_sq hT),key _ (levV_note hT)⟩
 out:=fun m x y hjm hm hx hy=>by
  obtain ⟨d,rfl⟩:∃d,m=j+d:=⟨m-j,by omega⟩
  have hB:=Box2.evN hg h (2^j)
  have hT:=gridT_mem (n:=j+d+1) (s:=2^(j+d)) (r:=0) (Nat.two_pow_pos _) hB (x:=x) (y:=y) (by rw [cast_pow];simpa using hx) (by rw [cast_pow];simpa using hy)
  exact List.mem_append_right _ (List.mem_append_right _ (List.mem_append_right _ (List.mem_flatMap.2 ⟨d,List.mem_range.2 (by omega),List.mem_map.2 ⟨_,hT,rfl⟩⟩)))
end
theorem Box2.mono {P:Int→Int→Bool} {lx ly lx' ly':Int} {w w':Nat} (h:Box2 P lx ly w) (h1:lx'≤lx) (h2:lx+w≤lx'+w') (h3:ly'≤ly) (h4:ly+w≤ly'+w'):Box2 P lx' ly' w':=fun a c hp=>by
 have:=h a c hp
 omega
def fewRun (b l:Int) (P:Int→Int→Bool) (lx ly:Int) (w n J K:Nat):List Thing:=(List.range J).flatMap fun j:Nat=>if n/2^j%2=1 then fewV b l (evN b l (n%2^j) P) (lx-((n%2^j:Nat):Int)) (ly-((n%2^j:Nat):Int)) (w+2*(n%2^j)) j K else []
def fewRunN (w n J K:Nat):Nat:=((List.range J).map fun j:Nat=>if n/2^j%2=1 then fewN (w+2*(n%2^j)) j K else 0).sum
theorem fewRun_len (b l:Int) (P:Int→Int→Bool) (lx ly:Int) (w n J K:Nat):(fewRun b l P lx ly w n J K).length=fewRunN w n J K:=by
 unfold fewRun fewRunN
 rw [List.length_flatMap]
 congr 1
 refine List.map_congr_left fun j _=>?_
 split
 ·rw [fewV_len]
 ·rfl
theorem few_steps {b l:Int} {P:Int→Int→Bool} {lx ly:Int} {w n J K k0:Nat} (hg:goodR b l) (h:Box2 P lx ly w) (hn:n<2^J) (hk0:1≤k0) (hs:∀m,m≤n→Supp (evN b l m P) k0) (hK:k0+2≤K) (hK2:J+2≤K) {V:List Thing} (h2:∀x∈fewRun b l P lx ly w n J K,x∈V):StepsC b l P n 40 V:=fun i hi hb k hk=>by
 have hJ:i<J:=by
  refine Nat.lt_of_not_le fun hle=>?_
  have h1:=Nat.pow_le_pow_right (n:=2) (by decide) hle
  rw [Nat.div_eq_of_lt (by omega)] at hb
  cases hb
 have hk2:=hk.le hk0 (hs _ (Nat.mod_le _ _))
 refine wins_leapC (M:=K+1) (wins_mono (few_wins hg (Box2.evN hg h (n%2^i)) (K:=K) (by omega)) fun x hx=>?_) hk.2.1 (by unfold leapK;omega)
 exact h2 x (List.mem_flatMap.2 ⟨i,List.mem_range.2 hJ,by rw [if_pos hb];exact hx⟩)
theorem few_two:∀n,n<3→fewRunN 28 n 2 7≤8000:=by decide+kernel
end Go.Proofs.YthohnjgnpapnoaaGreatDoor
namespace Go.Proofs.YthohnjgnpapnoaaGreatDoor
open Go.RowKit
structure RmI (H:HS) (V:List Thing) (i:Nat):Prop where
 hv:∀x∈(H.A 9).have_,x∈V
 len:V.length≤10+i*12000
 ws:∀y∈H.Ws,Box2 y.P (-(4+2*(i:Int))) (-(4+2*(i:Int))) (8+4*i)
 quota:H.S.quota 9=200000
section
variable {H H' : HS} {V : List Thing} {i : Nat} {q : SReq} {a : An} {d : Int}
theorem Box2.next {P:Int→Int→Bool} (h:Box2 P (-(4+2*(i:Int))) (-(4+2*(i:Int))) (8+4*i)):Box2 P (-(4+2*((i+1:Nat):Int))) (-(4+2*((i+1:Nat):Int))) (8+4*(i+1)):=
 h.mono (by omega) (by omega) (by omega) (by omega)
theorem RmI.more {V':List Thing} (I:RmI H V i) (D:H'.S.quota=H.S.quota) (hv:∀x∈(H'.A 9).have_,x∈V') (hl:V'.length≤V.length+12000) (hw:∀y∈H'.Ws,Box2 y.P (-(4+2*((i+1:Nat):Int))) (-(4+2*((i+1:Nat):Int))) (8+4*(i+1))):RmI H' V' (i+1):=
 ⟨hv,by have:=I.len;omega,hw,by rw [D];exact I.quota⟩
theorem RmI.same (I:RmI H V i) (D:H'.S.quota=H.S.quota) (hv:∀x∈(H'.A 9).have_,x∈(H.A 9).have_) (hw:∀y∈H'.Ws,∃z∈H.Ws,z.P=y.P):RmI H' V (i+1):=
 I.more D (fun x hx=>I.hv x (hv x hx)) (by omega) fun y hy=>by
  obtain ⟨z,hz,e⟩:=hw y hy
  rw [←e];exact (I.ws z hz).next
theorem hfind_code (Ws:List WD) (K:List KeyD) (name:List UInt8) (r:Int):(hfind Ws K name r).2=0∨(hfind Ws K name r).2=6∨(hfind Ws K name r).2=10:=by
 have key:∀f:List UInt8×Int,f.2=0∨f.2=6∨f.2=10→(if f.2=0 then match idxF Ws f.1 with | some i=>(i,0) | none=>(0,6) else ((0:Nat),f.2)).2=(0:Int)∨(if f.2=0 then match idxF Ws f.1 with | some i=>(i,0) | none=>(0,6) else ((0:Nat),f.2)).2=6∨(if f.2=0 then match idxF Ws f.1 with | some i=>(i,0) | none=>(0,6) else ((0:Nat),f.2)).2=10:=fun f hf=>by
  split
  ·cases idxF Ws f.1 with
   | some i=>exact .inl rfl
   | none=>exact .inr (.inl rfl)
  ·exact hf
 unfold hfind
 refine key _ ?_
 split
 ·unfold keyF
  split
  ·exact .inr (.inl rfl)
  ·split
   ·exact .inl rfl
   ·exact .inr (.inr rfl)
 ·exact .inl rfl
theorem set_want (hr:Rel H.S H.A) {y:WD} (hy:WOk H.S H.A 9 y) (hv:∀x∈(H.A 9).have_,x∈V) {l s:List (Int×Int)} (ht:Tid l s) (hl:l.length≤30) (hok:∀c∈l,okC c):∃V',(∀x∈V,x∈V')∧V'.length≤V.length+12000∧SetC y.P y.k s V':=by
 obtain ⟨V2,v1,v2⟩:=setC_few s y.P y.k hy.supp hy.ok hy.k40 fun c hc=>hok c ((ht.2 c).1 hc)
 have hb:=(setW_ok s hy.supp hy.ok hy.k40 fun c hc=>hok c ((ht.2 c).1 hc)).2.2.1
 have:=tid_length ht
 exact ⟨V++V2,fun x hx=>List.mem_append_left _ hx,by rw [List.length_append];omega,(v2 _ (fun z hz=>List.mem_append_left _ (hv z (hr.nodes_has (by decide) hy.has.2 z hz))) fun z hz=>List.mem_append_right _ hz).1⟩
theorem steps_want {y:WD} (hg:goodR y.b y.l) (hi:i<6) (hb:Box2 y.P (-(4+2*(i:Int))) (-(4+2*(i:Int))) (8+4*i)) {n:Nat} (hn:n<3) {L:List Thing} (hL:L.length≤1760) (V:List Thing):∃V',(∀x∈V,x∈V')∧V'.length≤V.length+12000∧StepsC y.b y.l y.P n 40 V'∧∀x∈L,x∈V':=by
 have hb2:Box2 y.P (-14) (-14) 28:=hb.mono (by omega) (by omega) (by omega) (by omega)
 have h2:=few_two n hn
 have e:(2:Int)^4=16:=by decide
 refine ⟨V++(fewRun y.b y.l y.P (-14) (-14) 28 n 2 7++L),fun x hx=>List.mem_append_left _ hx,?_,few_steps hg hb2 (by omega) (k0:=4) (by decide) (fun m hm=>?_) (by decide) (by decide) (fun x hx=>List.mem_append_right _ (List.mem_append_left _ hx)),fun x hx=>List.mem_append_right _ (List.mem_append_right _ hx)⟩
 ·rw [List.length_append,List.length_append,fewRun_len];omega
 ·exact (Box2.evN hg hb2 m).supp (by rw [e];omega) (by rw [e];omega) (by rw [e];omega) (by rw [e];omega)
theorem rmy_step (hr:Rel H.S H.A) (hgood:∀x∈H.Ws,WOk H.S H.A 9 x) (I:RmI H V i) (hi:i<6) (hl:q.cells.length≤30) (hc:∀c∈q.cells,(-4≤c.1∧c.1<4)∧(-4≤c.2∧c.2<4)) (hn:0≤q.n∧q.n<3) (D:DoR H q 9 d a H'):a.code≠9∧∃V',RmI H' V' (i+1):=by
 have hlen:=I.len
 have hok:∀c∈q.cells,okC c:=fun c hm=>by
  have:=hc c hm
  unfold okC okZ
  omega
 have hmk:((markH H 9).A 9).have_=(H.A 9).have_:=by show (markA H.A 9 9).have_=_;unfold markA;rw [upd_same]
 have hvm:∀{V':List Thing},(∀x∈V,x∈V')→∀x∈((markH H 9).A 9).have_,x∈V':=fun h x hx=>h x (I.hv x (by rw [←hmk];exact hx))
 have quit:∀{C:List Thing→Prop} {S' A'},Grew 9 C (markS H.S 9) (markA H.A 9) 0 S' A' 9→∀V',(∀x∈V,x∈V')→V'.length≤V.length+12000→C V'→False:=fun g V' h1 h2 h3=>by
  have:=g.quit rfl rfl V' (hvm h1) h3
  have hq:(markS H.S 9).quota 9=200000:=I.quota
  rw [hq] at this
  omega
 have blk:∀x∈blanks 2,x∈V++blanks 2:=fun x hx=>List.mem_append_right _ hx
 have blkl:(V++blanks 2).length≤V.length+12000:=by rw [List.length_append,blanks_length];omega
 have at_:∀{j:Nat} {y:WD},(markH H 9).Ws[j]? =some y→y∈H.Ws:=fun h=>List.mem_of_getElem? h
 by_cases h0:a.code=0
 ·refine ⟨by omega,?_⟩
  have hq:H'.S.quota=H.S.quota:=D.quota
  cases D.yes h0 with
  | new _ g=>
    obtain ⟨_,_,g3,r,_,g5,_,_⟩:=g
    refine ⟨V++blanks 2,I.more hq (g3.least _ (hvm fun x hx=>List.mem_append_left _ hx) (newC_blanks blk)) blkl fun y hy=>?_⟩
    rw [g5] at hy
    rcases List.mem_append.1 hy with k | k
    ·exact (I.ws y k).next
    ·rw [List.mem_singleton.1 k]
     intro p c hp
     simp [setOfL] at hp
  | set _ g=>
    obtain ⟨_,_,y,s,r,g1,g2,g3,_,g5,_,_⟩:=g
    obtain ⟨V',v1,v2,v3⟩:=set_want hr (hgood y (at_ g1)) I.hv g2 hl hok
    refine ⟨V',I.more hq (g3.least _ (hvm v1) v3) v2 fun z hz=>?_⟩
    rw [g5] at hz
    rcases List.mem_or_eq_of_mem_set hz with k | k
    ·exact (I.ws z k).next
    ·rw [k]
     intro p c hp
     rcases (setW_mem s y.P y.k p c).1 hp with e | e
     ·exact (I.ws y (at_ g1)).next p c e
     ·have:=hc _ ((g2.2 _).1 e)
      dsimp only at this
      omega
  | read _ g=>
    refine ⟨V,I.same hq (fun x hx=>?_) fun y hy=>⟨y,?_,rfl⟩⟩
    ·rw [g.1] at hx;rw [←hmk];exact hx
    ·rw [g.1] at hy;exact hy
  | step _ g=>
    obtain ⟨_,_,y,L,r,κ,g1,g2,_,g4,_,_,g7,_,_⟩:=g
    obtain ⟨V',v1,v2,v3,v4⟩:=steps_want (hgood y (at_ g1)).rule hi (I.ws y (at_ g1)) (n:=q.n.toNat) (by omega) g2 V
    refine ⟨V',I.more hq (g4.least _ (hvm v1) ⟨v3,v4⟩) v2 fun z hz=>?_⟩
    rw [g7] at hz
    rcases List.mem_or_eq_of_mem_set hz with k | k
    ·exact (I.ws z k).next
    ·rw [k]
     exact (Box2.evN (hgood y (at_ g1)).rule (I.ws y (at_ g1)) q.n.toNat).mono (by omega) (by omega) (by omega) (by omega)
  | drop _ g=>
    obtain ⟨j,_,_,g⟩:=g
    refine ⟨V,I.same hq (fun x hx=>?_) fun y hy=>⟨y,?_,rfl⟩⟩
    ·rw [g] at hx;rw [←hmk];exact hx
    ·rw [g] at hy;exact List.mem_of_mem_eraseIdx hy
  | copy _ g=>
    obtain ⟨_,y,g1,_,_,g3,r,_,g5,_,_⟩:=g
    refine ⟨V,I.same hq (fun x hx=>?_) fun z hz=>?_⟩
    ·rw [←hmk];exact g3.least _ (fun x hx=>hx) trivial x hx
    ·rw [g5] at hz
     rcases List.mem_append.1 hz with k | k
     ·exact ⟨z,k,rfl⟩
     ·rw [List.mem_singleton.1 k];exact ⟨y,at_ g1,rfl⟩
  | lease _ g=>
    obtain ⟨_,_,g⟩:=g
    refine ⟨V,I.same hq (fun x hx=>?_) fun y hy=>⟨y,?_,rfl⟩⟩
    ·rw [g] at hx;rw [←hmk];exact hx
    ·rw [g] at hy;exact hy
  | clean _ g=>
    obtain ⟨g1,g2,_⟩:=g
    refine ⟨V,I.same hq (fun x hx=>?_) fun y hy=>⟨y,?_,rfl⟩⟩
    ·rw [g1] at hx
     unfold cleanA at hx
     rw [upd_same] at hx
     rw [←hmk];exact (List.mem_filter.1 hx).1
    ·rw [g2] at hy;exact hy
 ·obtain ⟨_,n2,n3,_⟩:=D.no h0
  refine ⟨fun e=>?_,V,I.same D.quota (fun x hx=>(n2 x).1 hx) fun y hy=>⟨y,by rw [n3] at hy;exact hy,rfl⟩⟩
  obtain ⟨Hx,hF⟩:=D.why h0
  rw [e] at hF
  have hfc:=hfind_code
  cases hF with
  | new _ g=>
    rcases g with ⟨g,_⟩ | ⟨_,g⟩
    ·unfold addX at g
     repeat' split at g
     all_goals omega
    ·exact quit g _ (fun x hx=>List.mem_append_left _ hx) blkl (newC_blanks blk)
  | set _ g=>
    rcases g with ⟨g,_⟩ | ⟨_,y,s,g1,g2,g3⟩
    ·unfold setX at g
     have:=hfc (markH H 9).Ws (markH H 9).K q.name 2
     repeat' split at g
     all_goals omega
    ·obtain ⟨V',v1,v2,v3⟩:=set_want hr (hgood y (at_ g1)) I.hv g2 hl hok
     exact quit g3 V' v1 v2 v3
  | read _ g=>
    have:=hfc (markH H 9).Ws (markH H 9).K q.name 1
    rcases g.2 with g | ⟨_,y,a',_,g⟩
    ·omega
    ·rcases g with ⟨_,⟨_,g,_⟩ | ⟨_,g⟩⟩ | ⟨_,g,_⟩ | ⟨_,g,_⟩
     ·omega
     ·omega
     ·unfold cntR at g;split at g<;>cases g
     ·omega
  | step _ g=>
    rcases g with ⟨g,_⟩ | ⟨_,y,L,g1,g2,_,g4⟩
    ·unfold stepX at g
     have:=hfc (markH H 9).Ws (markH H 9).K q.name 2
     repeat' split at g
     all_goals omega
    ·obtain ⟨V',v1,v2,v3,v4⟩:=steps_want (hgood y (at_ g1)).rule hi (I.ws y (at_ g1)) (n:=q.n.toNat) (by omega) g2 V
     exact quit g4 V' v1 v2 ⟨v3,v4⟩
  | drop _ g=>obtain ⟨_,g,_⟩:=g;omega
  | copy _ g=>
    rcases g with ⟨g,_⟩ | ⟨_,y,_,⟨g,_⟩ | ⟨_,g⟩⟩
    ·have:=hfc (markH H 9).Ws (markH H 9).K q.name 1
     omega
    ·unfold addX at g
     repeat' split at g
     all_goals omega
    ·exact quit g V (fun x hx=>hx) (by omega) trivial
  | lease _ g=>
    obtain ⟨g,_⟩:=g
    unfold leaseX at g
    have:=hfc (markH H 9).Ws (markH H 9).K q.name 0
    repeat' split at g
    all_goals omega
  | none _ g=>obtain ⟨g,_⟩:=g;omega
end
end Go.Proofs.YthohnjgnpapnoaaGreatDoor
namespace Go.Proofs.YthohnjgnpapnoaaGreatDoor
open Go.RowKit
def RmRel (W:World) (h p i:Nat) (w:World):Prop:=
 ∃(R:ArR) (H:HS) (wv kv:Value) (V:List Thing),Ha W h p 9 77 R H wv kv w∧RmI H V i∧H.ser≤i
theorem Ha.lst {W w:World} {h p t:Nat} {d:Int} {R:ArR} {H:HS} {wv kv:Value} (hh:Ha W h p t d R H wv kv w):LSt W h p t d R H wv kv [] [] [] w:=
 ⟨hh,fun _ h=>(by cases h),fun _ h=>(by cases h),List.nodup_nil,fun _ h=>(by cases h),fun _ h=>(by cases h)⟩
theorem reqs_cells {w:World} {b off:Nat} {L:List (SReq×Value)} {i:Nat} {x:SReq×Value} (hx:L[i]? =some x) (hc:∀j u,(reqsV L)[j]? =some u→w.cell? ⟨b,off+j,none⟩=some u):
 w.cell? ⟨b,off+i*7,none⟩=some (.int .i64 x.1.verb)∧w.cell? ⟨b,off+i*7+1,none⟩=some (.string (str x.1.name))∧w.cell? ⟨b,off+i*7+2,none⟩=some (.string (str x.1.other))∧w.cell? ⟨b,off+i*7+3,none⟩=some (.int .i64 x.1.b)∧w.cell? ⟨b,off+i*7+4,none⟩=some (.int .i64 x.1.l)∧w.cell? ⟨b,off+i*7+5,none⟩=some (.int .i64 x.1.n)∧w.cell? ⟨b,off+i*7+6,none⟩=some x.2:=by
 have k:∀j,j<7→∀u,(reqC x)[j]? =some u→w.cell? ⟨b,off+(i*7+j),none⟩=some u:=fun j hj u hu=>hc _ _ ((reqsV_at L i x hx j hj).trans hu)
 exact ⟨k 0 (by decide) _ rfl,k 1 (by decide) _ rfl,k 2 (by decide) _ rfl,k 3 (by decide) _ rfl,k 4 (by decide) _ rfl,k 5 (by decide) _ rfl,k 6 (by decide) _ rfl⟩
theorem code_field (a:An) (aA:Option Addr) (an acap:Nat) (w:World):(Instr.field 57 (.agg #[.int .i64 a.code,.int .i64 a.n,.int .i64 a.x0,.int .i64 a.y0,.int .i64 a.x1,.int .i64 a.y1,.int .i64 a.b,.int .i64 a.l,.string (str a.key),.slice aA an acap]) 0).run Tryz.prog w= .ok (.int .i64 a.code) w:=by kernel_rfl
set_option maxRecDepth 100000 in
set_option maxHeartbeats 12800000 in
theorem roomy_any (W:World) (N:Nat) (v:Value) (L:List (SReq×Value)) (hR:ReqsIn W v N L) (hg:4<W.heap.size∧tabOk W):
 Calls Tryz.prog 7 #[v] W fun e W'=>e= .returned (.bool true)∧Below W.heap.size W W':=by
 obtain ⟨vA,vcap,rfl,hc1,hc2⟩:=hR.rd.form
 have HR:=Lib.hid hR
 have HG:=Lib.hid hg
 unfold maxLen at hc2
 clear hR hg
 go_enter Tryz.func7,Tryz.ntmps7
 go_wp2_with fail
 (with_reducible refine (rooms_any W 200000 (by decide)).mono ?_)
 rintro e w1 ⟨p,h,R,S,A,rfl,hl,hA,hrm,hqt,hwi,hyg,hbl⟩
 have HREL:Hid (RmRel W h p 0 w1):=⟨R,⟨S,A,[],0,[]⟩,.slice none 0 0,.slice none 0 0,[],⟨hl,hyg,hbl⟩,⟨fun x hx=>(by have hx:x∈(A 9).have_:=hx;rw [hA] at hx;cases hx),(by decide),fun y hy=>(by cases hy),hqt⟩,Nat.le_refl _⟩
 clear hl hA hrm hqt hwi hyg hbl
 go_wp2_with fail
 go_loopw [6] (fun iv wx=>∃i:Nat,iv= .int .i64 i∧i≤N∧i≤6∧RmRel W h p i wx) (fun iv _=>6-(intOf iv).toNat)
 case atStart=>exact ⟨0,rfl,Nat.zero_le _,Nat.zero_le _,HREL.out⟩
 case round=>
  obtain ⟨i,rfl,hi,hi2,R,H,wv,kv,V,hha,hI,hsr⟩:=hrel
  have HH:=Lib.hid hha
  have HI:=Lib.hid hI
  have HS:=Lib.hid hsr
  clear hha hI hsr HREL
  by_cases h1:i<N
  ·have k1:(i:Int)<(N:Int):=Int.ofNat_lt.2 h1
   by_cases h2:i<6
   ·have k2:(i:Int)<6:=by omega
    obtain ⟨x,hx⟩:∃x,L[i]? =some x:=⟨L[i]'(by have:=HR.out.len;omega),List.getElem?_eq_getElem _⟩
    obtain ⟨b,off,cap,hv,_,_,hb,hc⟩:=HR.out.rd.at (by omega)
    injection hv with hv _ hcap
    subst hv
    subst hcap
    obtain ⟨c0,c1,c2,c3,c4,c5,c6⟩:=reqs_cells hx hc
    have hbw:∀j,wr.cell? ⟨b,j,none⟩=W.cell? ⟨b,j,none⟩:=fun j=>HH.out.bel.cell hb
    rw [←hbw] at c0 c1 c2 c3 c4 c5 c6
    have HF:=Lib.hid (HR.out.fit x (List.mem_of_getElem? hx))
    obtain ⟨q,u⟩:=x
    dsimp only at c0 c1 c2 c3 c4 c5 c6
    have k0:¬((i:Int)<0):=Int.not_lt.2 (Int.natCast_nonneg i)
    have H1:=Lib.hid h1
    have H2:=Lib.hid h2
    clear hc hbw hb h1 h2 hi hi2 hx
    have HRQ:=Lib.hid (request_any wr q u ((HF.out.rd.below HH.out.bel).more HH.out.bel.size) HF.out.len)
    unfold reqV at HRQ
    go_wp2_with fail
    (with_reducible refine HRQ.out.mono ?_)
    rintro e w2 ⟨vA2,vcap2,rfl,hsl,hf,hb⟩
    have HL2:=Lib.hid (HH.out.lst.made hb hsl hf)
    have HL3:=Lib.hid (HL2.out.alloc 60 #[.int .i64 q.verb,.string (str q.name),.string (str q.other),.int .i64 q.b,.int .i64 q.l,.int .i64 q.n,.slice vA2 q.cells.length vcap2])
    have HSM:Hid (Calls Tryz.prog 28 #[.slice vA2 q.cells.length vcap2,.int .i64 30,.int .i64 4] (w2.alloc (.cells #[.int .i64 q.verb,.string (str q.name),.string (str q.other),.int .i64 q.b,.int .i64 q.l,.int .i64 q.n,.slice vA2 q.cells.length vcap2] 60)) (SomePost (w2.alloc (.cells #[.int .i64 q.verb,.string (str q.name),.string (str q.other),.int .i64 q.b,.int .i64 q.l,.int .i64 q.n,.slice vA2 q.cells.length vcap2] 60)) q.cells.length 30 q.cells 4)):=some_any _ q.cells.length 30 _ q.cells 4 (HL3.out.my _ List.mem_cons_self).1.rd HF.out.inn (by decide) (by decide) (by decide)
    clear hsl hf hb c0 c1 c2 c3 c4 c5 c6
    unfold reqV
    go_wp2_with fail
    (with_reducible refine HSM.out.mono ?_)
    rintro e w4 ⟨v4,rfl,hsl,hf,hb⟩
    obtain ⟨vA4,vcap4,rfl,_,_⟩:=hsl.form
    have hlen:(someL q.cells 30 4).length=min 30 q.cells.length:=someL_length _ _ _
    rw [←hlen] at hsl hf ⊢
    have HL4:=Lib.hid (HL3.out.made hb hsl hf)
    have HN4:Hid ((someL q.cells 30 4).length≤30):=by show (someL q.cells 30 4).length≤30;rw [hlen];exact Nat.min_le_left _ _
    have HI4:Hid (∀c∈someL q.cells 30 4,(-4≤c.1∧c.1<4)∧(-4≤c.2∧c.2<4)):=fun c hc=>someL_near (by decide) hc
    clear hlen hsl hf hb HSM HRQ
    generalize hbq:w2.heap.size=bq at*
    have HBQ:=Lib.hid hbq
    clear hbq
    generalize someL q.cells 30 4=l4 at*
    have c0:=HL4.out.cell List.mem_cons_self 0 rfl
    have c1:=HL4.out.cell List.mem_cons_self 1 rfl
    have c2:=HL4.out.cell List.mem_cons_self 2 rfl
    have c3:=HL4.out.cell List.mem_cons_self 3 rfl
    have c4:=HL4.out.cell List.mem_cons_self 4 rfl
    have c5:=HL4.out.cell List.mem_cons_self 5 rfl
    have c6:=HL4.out.cell List.mem_cons_self 6 rfl
    have f5:=HL4.out.frozen List.mem_cons_self 5
    have f6:=HL4.out.frozen List.mem_cons_self 6
    have HSP:=Lib.hid (fun wx=>spot_any q.n 3 (by decide) (by decide) HF.out.n.1 HF.out.n.2 wx)
    go_wp2_with fail
    (with_reducible refine (HSP.out _).mono ?_)
    rintro e wq ⟨rfl,rfl⟩
    go_wp2_with fail
    have HL5:=Lib.hid ((HL4.out.write ((HL4.out.blk _ List.mem_cons_self).set 6 (.slice vA4 l4.length vcap4)) ((Mod.refl (fun q=>q=bq) w4).set (p:=⟨bq,6,none⟩) (fun _=>rfl) _)).write ((((HL4.out.blk _ List.mem_cons_self).set 6 (.slice vA4 l4.length vcap4))).set 5 (.int .i64 (q.n%3))) ((Mod.refl (fun q=>q=bq) _).set (p:=⟨bq,5,none⟩) (fun _=>rfl) _))
    have HDQ:=Lib.hid (HL5.out.do_own {q with cells:=l4,n:=q.n%3} vA4 vcap4 List.mem_cons_self HF.out.name HF.out.other (by have:=HN4.out;show l4.length*16≤_;omega) HF.out.b (fun _=>by have:=HS.out;have:=H2.out;omega) (fun _=>HG.out))
    unfold reqV at HDQ
    (with_reducible refine HDQ.out.mono ?_)
    clear c0 c1 c2 c3 c4 c5 c6 f5 f6 HDQ
    rintro e w6 ⟨a,aA,an,acap,H',wv',kv',R',rfl,hd,hl,hz⟩
    obtain ⟨g9,V',hI'⟩:=rmy_step HH.out.hl.ar.rel HH.out.hl.good HI.out H2.out (by have:=HN4.out;show l4.length≤30;omega) HI4.out ⟨Int.emod_nonneg _ (by decide),Int.emod_lt_of_pos _ (by decide)⟩ hd
    have hs:=hd.ser
    have HE:Hid (RmRel W h p (i+1) w6):=⟨R',H',wv',kv',V',hl.ha,hI',by have:=HS.out;omega⟩
    have hx9:(a.code==9)=false:=beq_eq_false_iff_ne.2 g9
    clear hd hl hz hI' hs HL5 HL4 HL3 HL2 g9
    unfold ansV
    have HRF:=code_field a aA an acap w6
    go_wp2_with fail
    go_roundw
    case rel=>exact ⟨i+1,by go_num,H1.out,H2.out,HE.out⟩
    case measure=>simp [intOf];have:=H2.out;omega
   ·have k2:¬((i:Int)<6):=by omega
    have H1:=Lib.hid h1
    clear h1 h2 hi hi2
    go_wp2_with fail
    have HDQ:Hid (Calls Tryz.prog 25 #[.pointer (some ⟨h,0,none⟩),.agg #[.int .i64 99,.string ⟨#[]⟩,.string ⟨#[]⟩,.int .i64 0,.int .i64 0,.int .i64 0,.slice none 0 0]] wr (DoL W h p 9 77 R H wv kv [] [] [] ⟨99,[],[],0,0,0,[]⟩ wr)):=HH.out.lst.do_nil ⟨99,[],[],0,0,0,[]⟩ (by decide) (by decide) rfl (by decide) (fun h=>absurd h (by decide)) (fun h=>absurd h (by decide))
    (with_reducible refine HDQ.out.mono ?_)
    rintro e w6 ⟨a,aA,an,acap,H',wv',kv',R',rfl,hd,hl,hz⟩
    have hn0:a.code≠0:=fun e=>(hd.yes e).none' (by unfold noVerb;decide)
    obtain ⟨_,hF⟩:=hd.why hn0
    have ha4:=(hF.none' (by unfold noVerb;decide)).1
    have HBE:=Lib.hid hl.ha.bel
    clear hd hl hz hn0 hF
    have HRF:=code_field a aA an acap w6
    rw [ha4] at HRF
    unfold ansV
    go_wp2_with fail
    go_ret
    exact ⟨rfl,HBE.out⟩
  ·have k1:¬((i:Int)<(N:Int)):=by omega
   clear h1 hi
   go_wp2_with fail
   have HDQ:Hid (Calls Tryz.prog 25 #[.pointer (some ⟨h,0,none⟩),.agg #[.int .i64 99,.string ⟨#[]⟩,.string ⟨#[]⟩,.int .i64 0,.int .i64 0,.int .i64 0,.slice none 0 0]] wr (DoL W h p 9 77 R H wv kv [] [] [] ⟨99,[],[],0,0,0,[]⟩ wr)):=HH.out.lst.do_nil ⟨99,[],[],0,0,0,[]⟩ (by decide) (by decide) rfl (by decide) (fun h=>absurd h (by decide)) (fun h=>absurd h (by decide))
   (with_reducible refine HDQ.out.mono ?_)
   rintro e w6 ⟨a,aA,an,acap,H',wv',kv',R',rfl,hd,hl,hz⟩
   have hn0:a.code≠0:=fun e=>(hd.yes e).none' (by unfold noVerb;decide)
   obtain ⟨_,hF⟩:=hd.why hn0
   have ha4:=(hF.none' (by unfold noVerb;decide)).1
   have HBE:=Lib.hid hl.ha.bel
   clear hd hl hz hn0 hF
   have HRF:=code_field a aA an acap w6
   rw [ha4] at HRF
   unfold ansV
   go_wp2_with fail
   go_ret
   exact ⟨rfl,HBE.out⟩
end Go.Proofs.YthohnjgnpapnoaaGreatDoor
