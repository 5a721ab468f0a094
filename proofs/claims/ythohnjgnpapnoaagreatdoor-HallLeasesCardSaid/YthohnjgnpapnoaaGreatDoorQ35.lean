/- hall: how few things a set asks for. No program is named here. · hall: what try says of each verb. · HallLeases: the law: what a leased key opens. No program is walked here. · lifelodgekeep.some: so many cells at most, nearer to 0 than a bound. -/
import Derived.Test.YthohnjgnpapnoaaGreatDoorQ27
import Derived.Test.YthohnjgnpapnoaaGreatDoorQ34
import Derived.Test.YthohnjgnpapnoaaGreatDoorQ15
import Derived.Test.YthohnjgnpapnoaaGreatDoorQ1
import Derived.Test.YthohnjgnpapnoaaGreatDoorQ2
import Derived.IntWalk
import Derived.Deep.RegionHeld3
set_option linter.unusedVariables false
set_option linter.unusedSimpArgs false
namespace Go.Proofs.YthohnjgnpapnoaaGreatDoor
open Go.RowKit
theorem flat_few {f:Nat→List Thing} {b:Nat}:∀n,(∀i,i<n→(f i).length≤b)→((List.range n).flatMap f).length≤b*n
 | 0,_=>Nat.zero_le _
 | n+1,h=>by
   have ih:=flat_few n fun i hi=>h i (by omega)
   have h1:=h n (Nat.lt_succ_self n)
   rw [List.range_succ,List.flatMap_append,List.length_append,List.flatMap_singleton,Nat.mul_succ]
   omega
theorem up_nodes {P:Int→Int→Bool} {k:Nat} (hs:Supp P k) {V:List Thing} (h:∀x∈nodes (rootT P k),x∈V):∀m,(∀j,k≤j→j<k+m→∀x∈wrapL P j,x∈V)→∀x∈nodes (rootT P (k+m)),x∈V
 | 0,_,x,hx=>h x hx
 | m+1,hw,x,hx=>by
   have ih:=up_nodes hs h m fun j h1 h2=>hw j h1 (by omega)
   have e:=wrapT_all P (k+m)
   rw [clip_supp (hs.up (Nat.le_add_right k m))] at e
   have hx:x∈nodes (rootT P (k+m+1)):=hx
   rw [e,mem_nodes] at hx
   have key:∀j,j<4→x∈nodes (wrapT P (k+m) j)→x∈V:=fun j hj hh=>by
    rcases wrap_nodes hj hh with q | q
    ·exact hw (k+m) (by omega) (by omega) x q
    ·exact ih x q
   rcases hx with rfl | h' | h' | h' | h'
   ·exact hw (k+m) (by omega) (by omega) _ (by unfold wrapL;simp)
   ·exact key 0 (by decide) h'
   ·exact key 1 (by decide) h'
   ·exact key 2 (by decide) h'
   ·exact key 3 (by decide) h'
theorem setC_few:∀(l:List (Int×Int)) (P:Int→Int→Bool) (k:Nat),Supp P k→okP P→k≤40→(∀c∈l,okC c)→∃V:List Thing,V.length≤45*((setW P k l).2-k)+41*l.length∧∀V',(∀x∈nodes (rootT P k),x∈V')→(∀x∈V,x∈V')→SetC P k l V'∧∀x∈nodes (rootT (setW P k l).1 (setW P k l).2),x∈V'
 | [],P,k,_,_,_,_=>⟨[],Nat.zero_le _,fun V' h _=>⟨trivial,h⟩⟩
 | c::l,P,k,hs,ho,hk,hl=>by
   have hc:=hl c (List.mem_cons_self ..)
   have hu:=upK_max 41 k 40 c (ok_in40 hc) hk
   have hle:=upK_le 41 k c
   have hin:=upK_in 41 k c (inK_up (ok_in40 hc) (by omega))
   have hs2:=supp_set (hs.up hle) hin
   have hl2:∀d∈l,okC d:=fun d hd=>hl d (List.mem_cons_of_mem _ hd)
   obtain ⟨Vr,h1,h2⟩:=setC_few l (setP P c.1 c.2 true) (upK 41 k c) hs2 (ho.set hc) hu hl2
   obtain ⟨_,_,_,hf⟩:=setW_ok l hs2 (ho.set hc) hu hl2
   have hnot:=fun j=>upK_not 41 k j c
   have eW:setW P k (c::l)=setW (setP P c.1 c.2 true) (upK 41 k c) l:=rfl
   have eS:∀V',SetC P k (c::l) V'=(UpC P k c V'∧(∀x∈nodes (rootT (setP P c.1 c.2 true) (upK 41 k c)),x∈V')∧SetC (setP P c.1 c.2 true) (upK 41 k c) l V'):=fun _=>rfl
   generalize upK 41 k c=u at*
   obtain ⟨m,hm⟩:∃m,u=k+m:=⟨u-k,by omega⟩
   have hin2:=hin
   unfold inK at hin2
   have hw2:(2:Int)^(u+1)=2*2^u:=by rw [Int.pow_succ];omega
   obtain ⟨Vp,p1,p2⟩:=put_few P true (u+1) (-2^u) (-2^u) (c.1+2^u) (c.2+2^u) (by rw [hw2];omega) (by rw [hw2];omega)
   rw [rootT_set] at p2
   refine ⟨((List.range m).flatMap fun i=>wrapL P (k+i))++(Vp++Vr),?_,fun V' hn hV=>?_⟩
   ·have hfl:=flat_few (f:=fun i=>wrapL P (k+i)) (b:=45) m fun i hi=>by rw [wrapL_len];omega
    rw [eW,List.length_append,List.length_append,List.length_cons]
    omega
   ·have hwr:∀j,k≤j→j<k+m→∀x∈wrapL P j,x∈V':=fun j h3 h4 x hx=>hV x (List.mem_append_left _ (List.mem_flatMap.2 ⟨j-k,List.mem_range.2 (by omega),by rw [show k+(j-k)=j by omega];exact hx⟩))
    have hup:=up_nodes hs hn m hwr
    have hroot:∀x∈nodes (rootT (setP P c.1 c.2 true) u),x∈V':=fun x hx=>by
     rcases p2 x hx with q | q
     ·exact hup x (by rw [←hm];exact q)
     ·exact hV x (List.mem_append_right _ (List.mem_append_left _ q))
    obtain ⟨g1,g2⟩:=h2 V' hroot fun x hx=>hV x (List.mem_append_right _ (List.mem_append_right _ hx))
    refine ⟨?_,by rw [eW];exact g2⟩
    rw [eS]
    refine ⟨fun j h3 h4 x hx=>hwr j h3 ?_ x hx,hroot,g1⟩
    refine Nat.lt_of_not_le fun q=>h4 (inK_up hin (by omega))
end Go.Proofs.YthohnjgnpapnoaaGreatDoor
namespace Go.Proofs.YthohnjgnpapnoaaGreatDoor
open Go.RowKit
section
variable {H H' : HS} {q : SReq} {t : Nat} {x d : Int} {a : An}
theorem TryF.new' (h:TryF H q t x H') (hv:q.verb=1):AddF H q.name q.b q.l t NewC x H':=by
 cases h<;>(try simp only [noVerb] at*)<;>first | assumption | (exfalso;omega)
theorem TryF.set' (h:TryF H q t x H') (hv:q.verb=2):SetF H q t x H':=by
 cases h<;>(try simp only [noVerb] at*)<;>first | assumption | (exfalso;omega)
theorem TryF.read' (h:TryF H q t x H') (hv:q.verb=3∨q.verb=5∨q.verb=6):ReadF H q x H':=by
 cases h<;>(try simp only [noVerb] at*)<;>first | assumption | (exfalso;omega)
theorem TryF.drop' (h:TryF H q t x H') (hv:q.verb=7):DropF H q.name x H':=by
 cases h<;>(try simp only [noVerb] at*)<;>first | assumption | (exfalso;omega)
theorem TryF.lease' (h:TryF H q t x H') (hv:q.verb=9):LeaseF H q x H':=by
 cases h<;>(try simp only [noVerb] at*)<;>first | assumption | (exfalso;omega)
theorem TryG.new' (h:TryG H q t d a H') (hv:q.verb=1):AddG H q.name (setOfL []) 1 q.b q.l t NewC a H':=by
 cases h<;>first | assumption | (exfalso;omega)
theorem TryG.set' (h:TryG H q t d a H') (hv:q.verb=2):SetG H q t a H':=by
 cases h<;>first | assumption | (exfalso;omega)
theorem TryG.read' (h:TryG H q t d a H') (hv:q.verb=3∨q.verb=5∨q.verb=6):ReadG H q a H':=by
 cases h<;>first | assumption | (exfalso;omega)
theorem TryG.drop' (h:TryG H q t d a H') (hv:q.verb=7):DropG H q.name a H':=by
 cases h<;>first | assumption | (exfalso;omega)
theorem TryG.lease' (h:TryG H q t d a H') (hv:q.verb=9):LeaseG H q d a H':=by
 cases h<;>first | assumption | (exfalso;omega)
theorem DoR.why (h:DoR H q t d a H') (hn:a.code≠0):∃H1,TryF (markH H t) q t a.code H1:=(h.no hn).2.2.2.2.2
theorem DoR.quota (h:DoR H q t d a H'):H'.S.quota=H.S.quota:=h.oth.quota
theorem DoR.room (h:DoR H q t d a H'):H'.S.room=H.S.room:=h.oth.room
end
end Go.Proofs.YthohnjgnpapnoaaGreatDoor
namespace Go.Proofs.YthohnjgnpapnoaaGreatDoor
open Go.RowKit
theorem hexL_all (u:Nat):∀acc:List UInt8,(∀c∈acc,hexC c)→∀c∈hexL u acc,hexC c:=by
 induction u using Nat.strongRecOn with
 | _ u ih=>
   intro acc ha c hc
   by_cases h:16≤u
   ·rw [hexL_more h] at hc
    refine ih (u/16) (by omega) (digH (u%16)::acc) (fun d hd=>?_) c hc
    rcases List.mem_cons.1 hd with rfl | hd
    ·exact digH_hex ⟨u%16,Nat.mod_lt _ (by decide)⟩
    ·exact ha d hd
   ·rw [hexL_last (by omega)] at hc
    rcases List.mem_cons.1 hc with rfl | hc
    ·exact digH_hex ⟨u,by omega⟩
    ·exact ha c hc
theorem hexL_len (u:Nat):∀(acc:List UInt8) (k:Nat),u<16^(k+1)→acc.length+1≤(hexL u acc).length∧(hexL u acc).length≤acc.length+k+1:=by
 induction u using Nat.strongRecOn with
 | _ u ih=>
   intro acc k hk
   by_cases h:16≤u
   ·rw [hexL_more h]
    obtain ⟨k,rfl⟩:∃m,k=m+1:=⟨k-1,by
     have:k≠0:=fun e=>by subst e;simp at hk;omega
     omega⟩
    have:=ih (u/16) (by omega) (digH (u%16)::acc) k (by
     rw [Nat.pow_succ] at hk
     exact Nat.div_lt_of_lt_mul (by rw [Nat.mul_comm];exact hk))
    rw [List.length_cons] at this
    omega
   ·rw [hexL_last (by omega),List.length_cons];omega
theorem mixV_range (s d:Int):0≤mixV s d∧mixV s d<18446744073709551616:=xor_range _ 2147483648 (by omega)
theorem keyT_keyed {s:Nat} (hs:s<100) {h:List UInt8} (hl:1≤h.length∧h.length≤16) (ha:∀c∈h,hexC c):keyedW (keyT s h)=true∧(keyT s h).length≤41:=by
 obtain ⟨d1,d2,d3⟩:=dec_small ⟨s,hs⟩
 dsimp only at d1 d2 d3
 generalize hD:Lib.decDigits s=D at d1 d2 d3
 have e:(keyT s h).length=D.length+h.length+2:=by unfold keyT;rw [hD];simp;omega
 refine ⟨?_,by omega⟩
 unfold keyedW
 rw [decide_eq_true (by omega),decide_eq_true (by rfl)]
 simp only [Bool.true_and]
 rw [List.all_eq_true]
 intro c hc
 have hc:c∈Lib.decDigits s++107::h:=hc
 rw [hD] at hc
 have fin:(97≤c.toNat∧c.toNat≤122)∨(48≤c.toNat∧c.toNat≤57):=by
  rcases List.mem_append.1 hc with q | q
  ·exact .inr (d3 c q)
  ·rcases List.mem_cons.1 q with rfl | q
   ·exact .inl (by decide)
   ·have:=ha c q
    unfold hexC at this
    omega
 unfold lowC digC
 rw [Bool.or_eq_true,decide_eq_true_eq,decide_eq_true_eq]
 exact fin
theorem hex16 {u:Nat} (h:u<18446744073709551616):1≤(hexL u []).length∧(hexL u []).length≤16:=by
 have e:(16:Nat)^(15+1)=18446744073709551616:=by decide
 exact hexL_len u [] 15 (by rw [e];exact h)
theorem nat_small {z:Int} {m:Nat} (h0:0≤z) (h1:z<(m:Int)):z.toNat<m:=by omega
theorem mint_keyed {s:Nat} (hs:s<100) (d:Int):keyedW (mintT s d)=true∧(mintT s d).length≤41:=by
 obtain ⟨m1,m2⟩:=mixV_range s d
 unfold mintT
 exact keyT_keyed hs (hex16 (nat_small m1 m2)) (hexL_all _ [] fun c hc=>by cases hc)
theorem hfind_plain {Ws:List WD} {K:List KeyD} {name:List UInt8} {r:Int} (hk:keyedW name=false):hfind Ws K name r=match idxF Ws name with | some i=>(i,0) | none=>(0,6):=by
 unfold hfind
 simp only [hk]
 rfl
theorem hfind_one {x:WD} {K:List KeyD} {r:Int} (hk:keyedW x.name=false):hfind [x] K x.name r=(0,0):=by
 rw [hfind_plain hk]
 have:idxF [x] x.name=some 0:=by simp [idxF]
 rw [this]
theorem hfind_key {x:WD} {k:KeyD} {r:Int} (hk:keyedW k.text=true) (hn:k.name=str x.name):hfind [x] [k] k.text r=if bits .and .i64 k.rights r=r then (0,0) else (0,10):=by
 have e:keyF [k] k.text r=if bits .and .i64 k.rights r=r then (k.name.toList,0) else ([],10):=by
  unfold keyF
  simp
 unfold hfind
 simp only [hk,if_true,e]
 split
 ·rename_i hb
  have hx:idxF [x] k.name.toList=some 0:=by rw [hn,str_toList];simp [idxF]
  simp [hx]
 ·simp
theorem hfind_gone {Ws:List WD} {text:List UInt8} {r:Int} (hk:keyedW text=true):hfind Ws [] text r=(0,6):=by
 unfold hfind
 simp [hk,keyF]
theorem setW_mem:∀(l:List (Int×Int)) (P:Int→Int→Bool) (k:Nat) (a b:Int),(setW P k l).1 a b=true↔P a b=true∨(a,b)∈l
 | [],P,k,a,b=>by simp [setW]
 | c::l,P,k,a,b=>by
   have ih:=setW_mem l (setP P c.1 c.2 true) (upK 41 k c) a b
   show (setW (setP P c.1 c.2 true) (upK 41 k c) l).1 a b=true↔_
   rw [ih,List.mem_cons]
   unfold setP
   by_cases e:a=c.1∧b=c.2
   ·obtain ⟨rfl,rfl⟩:=e
    simp
   ·rw [if_neg e]
    have:¬(a,b)=c:=fun h=>e (by rw [←h];exact ⟨rfl,rfl⟩)
    simp [this]
theorem within_mark {S:ArS} {A:Nat→Abs} {t:Nat} {V:List Thing} (h:Within S V) (hr:Rel S A) (ht:t<64):Within (markS S t) V:=fun i x hd=>h i x ((hr.mark ht).2.denT.1 hd)
theorem newC_blanks {V:List Thing} (h:∀x∈blanks 2,x∈V):NewC V:=fun x hx=>by
 have e:rootT (setOfL []) 1=emptyT 2:=treeOf_none fun a b _=>by simp [setOfL]
 rw [e,nodes_emptyT] at hx
 exact h x hx
section
variable {S : ArS} {A : Nat → Abs} {a1 a2 a3 a4 a5 a6 a7 : An} {H1 H2 H3 H4 H5 H6 H7 : HS} {r : Int} {l : List (Int × Int)} {d : Int} {t : Nat}
theorem lea_new (hr:Rel S A) (ht:t<64) (hroom:S.room=200000) (hq:S.quota t=200000) {V:List Thing} (hw:Within S V) (hV:V.length<100) (D:DoR ⟨S,A,[],0,[]⟩ ⟨1,[97,98],[],8,12,0,[]⟩ t d a1 H1):
 a1.code=0∧(∃z,H1.Ws= [⟨[97,98],z,1,setOfL [],8,12⟩])∧H1.ser=0∧H1.K= []∧Within H1.S (V++blanks 2)∧H1.S.room=200000∧H1.S.quota t=200000:=by
 have hax:addX (markH ⟨S,A,[],0,[]⟩ t) [97,98] 8 12=0:=by
  unfold addX
  rw [if_neg (by decide),if_neg (by decide),if_neg (by show ¬(hfind [] [] [97,98] 0).2=0;decide),if_neg (by show ¬([]:List WD).length=16;decide)]
 have key:∀S' A' bad,Grew t NewC (markS S t) (markA A t) 0 S' A' bad→bad=0∧Within S' (V++blanks 2):=fun S' A' bad hg=>by
  have hl:((V++blanks 2).length:Int)<200000:=by rw [List.length_append,blanks_length];omega
  obtain ⟨g1,g2,_⟩:=hg.enough (V++blanks 2) (fun i x hd=>List.mem_append_left _ (within_mark hw hr ht i x hd)) (newC_blanks fun x hx=>List.mem_append_right _ hx) (by show _<S.room;rw [hroom];exact hl) (by show _<S.quota t;rw [hq];exact hl)
  exact ⟨g1,g2⟩
 have h0:a1.code=0:=by
  refine Classical.byContradiction fun hn=>?_
  obtain ⟨Hx,hF⟩:=D.why hn
  rcases hF.new' rfl with ⟨g,_⟩ | ⟨_,g⟩
  ·exact hn (g.symm.trans hax)
  ·exact hn (key _ _ _ g).1
 obtain ⟨_,_,g3,z,g4,g5,g6,g7⟩:=(D.yes h0).new' rfl
 exact ⟨h0,⟨z,g5⟩,g6,g7,(key _ _ _ g3).2,D.room.trans hroom,by rw [D.quota];exact hq⟩
theorem lea_lease {z:Int} (hW:H1.Ws= [⟨[97,98],z,1,setOfL [],8,12⟩]) (hs:H1.ser=0) (hK:H1.K= []) (h0:0≤r) (h3:r<3) (D:DoR H1 ⟨9,[97,98],[],0,0,1+r,[]⟩ t d a2 H2):
 a2.code=0∧a2.key=mintT 0 d∧H2={markH H1 t with ser:=1,K:=[⟨mintT 0 d,str [97,98],1+r⟩]}:=by
 have hx:leaseX (markH H1 t) ⟨9,[97,98],[],0,0,1+r,[]⟩=0:=by
  have hf:(hfind (markH H1 t).Ws (markH H1 t).K [97,98] 0).2=0:=by
   show (hfind H1.Ws H1.K [97,98] 0).2=0
   rw [hW]
   exact congrArg Prod.snd (hfind_one (x:=⟨[97,98],z,1,setOfL [],8,12⟩) (show keyedW [97,98]=false by decide))
  unfold leaseX
  rw [if_neg (show ¬keyedW [97,98]=true by decide),if_neg (by rw [hf];decide),if_pos (by show 1≤1+r∧1+r≤3;omega),if_neg (by show ¬H1.K.length=32;rw [hK];decide)]
 have h0:a2.code=0:=by
  refine Classical.byContradiction fun hn=>?_
  obtain ⟨Hx,hF⟩:=D.why hn
  exact hn ((hF.lease' rfl).1.trans hx)
 obtain ⟨_,g2,g3⟩:=(D.yes h0).lease' rfl
 have e:(markH H1 t).ser=0:=hs
 refine ⟨h0,by rw [g2,e],?_⟩
 rw [g3]
 unfold leaseK
 rw [e,show (markH H1 t).K= [] from hK]
 rfl
theorem and_two {r:Int} (h:r=1∨r=2):bits .and .i64 (1+r) 2=2:=by
 rcases h with rfl | rfl<;>decide+kernel
theorem and_one {r:Int} (h:r=0∨r=2):bits .and .i64 (1+r) 1=1:=by
 rcases h with rfl | rfl<;>decide+kernel
theorem lea_set_no {x:WD} {k:KeyD} {H:HS} (hW:H.Ws= [x]) (hK:H.K= [k]) (hk:keyedW k.text=true) (hn:k.name=str x.name) (hr:bits .and .i64 k.rights 2≠2) (D:DoR H ⟨2,k.text,[],0,0,0,l⟩ t d a3 H3):
 a3.code=10∧H3.Ws= [x]∧H3.K= [k]:=by
 have hf:(hfind (markH H t).Ws (markH H t).K k.text 2).2=10:=by
  show (hfind H.Ws H.K k.text 2).2=10
  rw [hW,hK,hfind_key hk hn,if_neg hr]
 have hx:setX (markH H t) ⟨2,k.text,[],0,0,0,l⟩=10:=by
  unfold setX
  rw [if_pos (by rw [hf];decide),hf]
 have hn0:a3.code≠0:=fun e=>by
  have:=((D.yes e).set' rfl).1
  rw [hx] at this;cases this
 obtain ⟨_,_,g1,_,g2,_⟩:=D.no hn0
 obtain ⟨Hx,hF⟩:=D.why hn0
 refine ⟨?_,g1.trans hW,g2.trans hK⟩
 rcases hF.set' rfl with ⟨g,_⟩ | ⟨g,_⟩
 ·exact g.symm.trans hx
 ·rw [hx] at g;cases g
theorem lea_set_yes {x:WD} {k:KeyD} {H:HS} (hrel:Rel H.S H.A) (ht:t<64) (hW:H.Ws= [x]) (hK:H.K= [k]) (hk:keyedW k.text=true) (hn:k.name=str x.name) (hr:bits .and .i64 k.rights 2=2) (hx1:x.k=1) (hxP:x.P=setOfL [])
 (hl:l.length≤100) (hok:∀c∈l,okC c) (hroom:H.S.room=200000) (hq:H.S.quota t=200000) {V:List Thing} (hw:Within H.S V) (hV:V.length<1000) (hVb:∀z∈blanks 2,z∈V) (D:DoR H ⟨2,k.text,[],0,0,0,l⟩ t d a3 H3):
 a3.code=0∧H3.K= [k]∧∃z s,Tid l s∧H3.Ws= [{x with root:=z,P:=(setW x.P x.k s).1,k:=(setW x.P x.k s).2}]:=by
 have hfe:hfind (markH H t).Ws (markH H t).K k.text 2=(0,0):=by
  show hfind H.Ws H.K k.text 2=(0,0)
  rw [hW,hK,hfind_key hk hn,if_pos hr]
 have hx:setX (markH H t) ⟨2,k.text,[],0,0,0,l⟩=0:=by
  unfold setX
  rw [if_neg (by rw [hfe];decide),if_neg (by show ¬4096<l.length;omega),if_neg (by rintro ⟨c,hc,h⟩;exact h (hok c hc))]
 have hy:∀y,(markH H t).Ws[(hfind (markH H t).Ws (markH H t).K k.text 2).1]? =some y→y=x:=fun y hy=>by
  rw [hfe] at hy
  have hy:H.Ws[0]? =some y:=hy
  rw [hW] at hy
  simpa using hy.symm
 have h0:a3.code=0:=by
  refine Classical.byContradiction fun hn0=>?_
  obtain ⟨Hx,hF⟩:=D.why hn0
  rcases hF.set' rfl with ⟨g,_⟩ | ⟨_,y,s,g1,g2,g3⟩
  ·exact hn0 (g.symm.trans hx)
  ·obtain rfl:=hy y g1
   have hs:∀c∈s,okC c:=fun c hc=>hok c ((g2.2 c).1 hc)
   have hsu:Supp y.P y.k:=by rw [hxP];intro a b hp;simp [setOfL] at hp
   have hoP:okP y.P:=by rw [hxP];intro a b hp;simp [setOfL] at hp
   have hk40:y.k≤40:=by rw [hx1];decide
   obtain ⟨V2,v1,v2⟩:=setC_few s y.P y.k hsu hoP hk40 hs
   have hb:=(setW_ok s hsu hoP hk40 hs).2.2.1
   have hsl:s.length≤l.length:=tid_length g2
   have hlen:((V++V2).length:Int)<200000:=by rw [List.length_append];omega
   have hroot:∀z∈nodes (rootT y.P y.k),z∈V++V2:=by
    rw [hxP,hx1]
    exact newC_blanks fun z hz=>List.mem_append_left _ (hVb z hz)
   exact hn0 (g3.enough (V++V2) (fun i z hd=>List.mem_append_left _ (within_mark hw hrel ht i z hd)) (v2 _ hroot fun z hz=>List.mem_append_right _ hz).1 (by show _<H.S.room;rw [hroom];exact hlen) (by show _<H.S.quota t;rw [hq];exact hlen)).1
 obtain ⟨_,_,y,s,z,g1,g2,_,_,g5,_,g7⟩:=(D.yes h0).set' rfl
 obtain rfl:=hy y g1
 refine ⟨h0,g7.trans hK,z,s,g2,?_⟩
 rw [g5,hfe]
 show H.Ws.set 0 _=_
 rw [hW]
 rfl
theorem lea_get_no {y:WD} {k:KeyD} {H:HS} (hW:H.Ws= [y]) (hK:H.K= [k]) (hk:keyedW k.text=true) (hn:k.name=str y.name) (hr:bits .and .i64 k.rights 1≠1) (D:DoR H ⟨3,k.text,[],0,0,0,[]⟩ t d a4 H4):
 a4.code=10∧H4.Ws= [y]∧H4.K= [k]:=by
 have hf:(hfind (markH H t).Ws (markH H t).K k.text 1).2=10:=by
  show (hfind H.Ws H.K k.text 1).2=10
  rw [hW,hK,hfind_key hk hn,if_neg hr]
 have hn0:a4.code≠0:=fun e=>by
  have:=((D.yes e).read' (.inl rfl)).2.1
  rw [hf] at this;cases this
 obtain ⟨_,_,g1,_,g2,_⟩:=D.no hn0
 obtain ⟨Hx,hF⟩:=D.why hn0
 refine ⟨?_,g1.trans hW,g2.trans hK⟩
 rcases (hF.read' (.inl rfl)).2 with g | ⟨g,_⟩
 ·exact g.symm.trans hf
 ·rw [hf] at g;cases g
theorem lea_get_yes {y:WD} {k:KeyD} {H:HS} (hW:H.Ws= [y]) (hK:H.K= [k]) (hk:keyedW k.text=true) (hn:k.name=str y.name) (hr:bits .and .i64 k.rights 1=1) (hlen:(cellsT y.P (y.k+1) (-2^y.k) (-2^y.k)).length≤4096) (D:DoR H ⟨3,k.text,[],0,0,0,[]⟩ t d a4 H4):
 a4.code=0∧H4.Ws= [y]∧H4.K= [k]∧Tid (cellsT y.P (y.k+1) (-2^y.k) (-2^y.k)) a4.cells:=by
 have hfe:hfind (markH H t).Ws (markH H t).K k.text 1=(0,0):=by
  show hfind H.Ws H.K k.text 1=(0,0)
  rw [hW,hK,hfind_key hk hn,if_pos hr]
 have hy:∀y',(markH H t).Ws[(hfind (markH H t).Ws (markH H t).K k.text 1).1]? =some y'→y'=y:=fun y' hy=>by
  rw [hfe] at hy
  have hy:H.Ws[0]? =some y':=hy
  rw [hW] at hy
  simpa using hy.symm
 have rd:∀x a,ReadA y 3 x a→x=0∧∃s,Tid (cellsT y.P (y.k+1) (-2^y.k) (-2^y.k)) s∧a={An.zero 0 with n:=s.length,b:=y.b,l:=y.l,cells:=s}:=fun x a h=>by
  rcases h with ⟨_,⟨_,g,g'⟩ | ⟨g,_⟩⟩ | ⟨h,_⟩ | ⟨h,_⟩
  ·exact ⟨g,g'⟩
  ·omega
  ·exact absurd h (by decide)
  ·exact absurd h (by decide)
 have h0:a4.code=0:=by
  refine Classical.byContradiction fun hn0=>?_
  obtain ⟨Hx,hF⟩:=D.why hn0
  rcases (hF.read' (.inl rfl)).2 with g | ⟨_,y',a,g1,g2⟩
  ·exact hn0 (g.symm.trans (congrArg Prod.snd hfe))
  ·obtain rfl:=hy y' g1
   exact hn0 (rd _ _ g2).1
 obtain ⟨g0,_,y',g1,g2⟩:=(D.yes h0).read' (.inl rfl)
 obtain rfl:=hy y' g1
 obtain ⟨_,s,g3,g4⟩:=rd _ _ g2
 refine ⟨h0,by rw [g0];exact hW,by rw [g0];exact hK,?_⟩
 rw [g4]
 exact g3
theorem lea_again {y:WD} {k:KeyD} {H:HS} (hW:H.Ws= [y]) (hK:H.K= [k]) (hk:keyedW k.text=true) (D:DoR H ⟨9,k.text,[],0,0,1,[]⟩ t d a5 H5):a5.code=10∧H5.Ws= [y]∧H5.K= [k]:=by
 have hx:leaseX (markH H t) ⟨9,k.text,[],0,0,1,[]⟩=10:=by unfold leaseX;rw [if_pos hk]
 have hn0:a5.code≠0:=fun e=>by
  have:=((D.yes e).lease' rfl).1
  rw [hx] at this;cases this
 obtain ⟨_,_,g1,_,g2,_⟩:=D.no hn0
 obtain ⟨Hx,hF⟩:=D.why hn0
 exact ⟨(hF.lease' rfl).1.trans hx,g1.trans hW,g2.trans hK⟩
theorem lea_drop {y:WD} {k:KeyD} {H:HS} (hW:H.Ws= [y]) (hK:H.K= [k]) (hn:k.name=str y.name) (D:DoR H ⟨7,y.name,[],0,0,0,[]⟩ t d a6 H6):a6.code=0∧H6.Ws= []∧H6.K= []:=by
 have hi:idxF (markH H t).Ws y.name=some 0:=by
  show idxF H.Ws y.name=some 0
  rw [hW];simp [idxF]
 have h0:a6.code=0:=by
  refine Classical.byContradiction fun hn0=>?_
  obtain ⟨Hx,hF⟩:=D.why hn0
  have:=(hF.drop' rfl).1
  rw [hi] at this;cases this
 obtain ⟨i,g1,_,g3⟩:=(D.yes h0).drop' rfl
 rw [hi] at g1
 injection g1 with g1
 subst g1
 refine ⟨h0,?_,?_⟩
 ·rw [g3];show H.Ws.eraseIdx 0= [];rw [hW];rfl
 ·rw [g3];show without (str y.name) H.K= [];rw [hK];simp [without,hn]
theorem lea_gone {key:List UInt8} {H:HS} (hK:H.K= []) (hk:keyedW key=true) (D:DoR H ⟨3,key,[],0,0,0,[]⟩ t d a7 H7):a7.code=6:=by
 have hf:(hfind (markH H t).Ws (markH H t).K key 1).2=6:=by
  show (hfind H.Ws H.K key 1).2=6
  rw [hK,hfind_gone hk]
 have hn0:a7.code≠0:=fun e=>by
  have:=((D.yes e).read' (.inl rfl)).2.1
  rw [hf] at this;cases this
 obtain ⟨Hx,hF⟩:=D.why hn0
 rcases (hF.read' (.inl rfl)).2 with g | ⟨g,_⟩
 ·exact g.symm.trans hf
 ·rw [hf] at g;cases g
end
def LeasesSay (r:Int) (l:List (Int×Int)) (a1 a2 a3 a4 a5 a7:An):Prop:=
 a1.code=0∧a2.code=0∧a5.code=10∧a7.code=6∧((r=0∧a3.code=10∧a4.code=0∧a4.cells= [])∨(r=1∧a3.code=0∧a4.code=10)∨(r=2∧a3.code=0∧a4.code=0∧Tid l a4.cells))
theorem leases_law {S:ArS} {A:Nat→Abs} {a1 a2 a3 a4 a5 a6 a7:An} {H1 H2 H3 H4 H5 H6 H7:HS} {r:Int} {l:List (Int×Int)} (hroom:S.room=200000) (hq:S.quota 9=200000) (hw:Within S [firstT]) (hr0:Rel S A) (hr1:Rel H1.S H1.A) (hr2:Rel H2.S H2.A) (h0:0≤r) (h3:r<3)
 (hl:l.length≤100) (hok:∀c∈l,okC c)
 (D1:DoR ⟨S,A,[],0,[]⟩ ⟨1,[97,98],[],8,12,0,[]⟩ 9 77 a1 H1) (D2:DoR H1 ⟨9,[97,98],[],0,0,1+r,[]⟩ 9 77 a2 H2) (D3:DoR H2 ⟨2,a2.key,[],0,0,0,l⟩ 9 77 a3 H3) (D4:DoR H3 ⟨3,a2.key,[],0,0,0,[]⟩ 9 77 a4 H4)
 (D5:DoR H4 ⟨9,a2.key,[],0,0,1,[]⟩ 9 77 a5 H5) (D6:DoR H5 ⟨7,[97,98],[],0,0,0,[]⟩ 9 77 a6 H6) (D7:DoR H6 ⟨3,a2.key,[],0,0,0,[]⟩ 9 77 a7 H7):LeasesSay r l a1 a2 a3 a4 a5 a7:=by
 obtain ⟨c1,⟨z,W1⟩,s1,K1,w1,m1,q1⟩:=lea_new hr0 (by decide) hroom hq hw (by decide) D1
 obtain ⟨c2,k2,e2⟩:=lea_lease W1 s1 K1 h0 h3 D2
 have hk:=(mint_keyed (s:=0) (by decide) 77).1
 rw [k2] at D3 D4 D5 D7
 obtain ⟨k,hke⟩:∃k:KeyD,k=⟨mintT 0 77,str [97,98],1+r⟩:=⟨_,rfl⟩
 obtain ⟨x,hxe⟩:∃x:WD,x=⟨[97,98],z,1,setOfL [],8,12⟩:=⟨_,rfl⟩
 have W2:H2.Ws= [x]:=by rw [e2,hxe];exact W1
 have K2:H2.K= [k]:=by rw [e2,hke]
 have kt:mintT 0 77=k.text:=by rw [hke]
 have kn:k.name=str x.name:=by rw [hke,hxe]
 have kr:k.rights=1+r:=by rw [hke]
 have xn:([97,98]:List UInt8)=x.name:=by rw [hxe]
 have x1:x.k=1:=by rw [hxe]
 have xP:x.P=setOfL []:=by rw [hxe]
 rw [kt] at hk D3 D4 D5 D7
 rw [xn] at D6
 have S2:H2.S=markS H1.S 9:=by rw [e2];rfl
 have w2:Within H2.S ([firstT]++blanks 2):=by rw [S2];exact within_mark w1 hr1 (by decide)
 have fin:∀y:WD,y.name=x.name→H4.Ws= [y]→H4.K= [k]→a5.code=10∧a7.code=6:=fun y hy W4 K4=>by
  obtain ⟨c5,W5,K5⟩:=lea_again W4 K4 hk D5
  rw [←hy] at D6 kn
  obtain ⟨_,_,K6⟩:=lea_drop W5 K5 kn D6
  exact ⟨c5,lea_gone K6 hk D7⟩
 have emp:(cellsT (setOfL []) (1+1) (-2^1) (-2^1))= []:=cellsT_blank (by decide)
 rcases (by omega:r=0∨r=1∨r=2) with hr | hr | hr
 ·obtain ⟨c3,W3,K3⟩:=lea_set_no W2 K2 hk kn (by rw [kr,hr];decide+kernel) D3
  have emp2:cellsT x.P (x.k+1) (-2^x.k) (-2^x.k)= []:=by rw [xP,x1];exact emp
  obtain ⟨c4,W4,K4,t4⟩:=lea_get_yes W3 K3 hk kn (by rw [kr];exact and_one (.inl hr)) (by rw [emp2];decide) D4
  obtain ⟨c5,c7⟩:=fin x rfl W4 K4
  refine ⟨c1,c2,c5,c7,.inl ⟨hr,c3,c4,?_⟩⟩
  rw [emp2] at t4
  exact List.eq_nil_iff_forall_not_mem.2 fun c hc=>by have:=(t4.2 c).1 hc;cases this
 ·obtain ⟨c3,K3,z3,s,t3,W3⟩:=lea_set_yes hr2 (by decide) W2 K2 hk kn (by rw [kr];exact and_two (.inl hr)) x1 xP hl hok (by rw [S2];exact m1) (by rw [S2];exact q1) w2 (by decide) (fun z hz=>List.mem_append_right _ hz) D3
  obtain ⟨c4,W4,K4⟩:=lea_get_no (y:={x with root:=z3,P:=(setW x.P x.k s).1,k:=(setW x.P x.k s).2}) W3 K3 hk kn (by rw [kr,hr];decide+kernel) D4
  obtain ⟨c5,c7⟩:=fin {x with root:=z3,P:=(setW x.P x.k s).1,k:=(setW x.P x.k s).2} rfl W4 K4
  exact ⟨c1,c2,c5,c7,.inr (.inl ⟨hr,c3,c4⟩)⟩
 ·obtain ⟨c3,K3,z3,s,t3,W3⟩:=lea_set_yes hr2 (by decide) W2 K2 hk kn (by rw [kr];exact and_two (.inr hr)) x1 xP hl hok (by rw [S2];exact m1) (by rw [S2];exact q1) w2 (by decide) (fun z hz=>List.mem_append_right _ hz) D3
  have hsu:Supp x.P x.k:=by rw [xP];intro a b hp;simp [setOfL] at hp
  have hoP:okP x.P:=by rw [xP];intro a b hp;simp [setOfL] at hp
  have hs:∀c∈s,okC c:=fun c hc=>hok c ((t3.2 c).1 hc)
  obtain ⟨hsu3,_,_,_⟩:=setW_ok s hsu hoP (by rw [x1];decide) hs
  have hmem:∀c,c∈cellsT (setW x.P x.k s).1 ((setW x.P x.k s).2+1) (-2^(setW x.P x.k s).2) (-2^(setW x.P x.k s).2)↔c∈l:=fun c=>by
   rw [mem_cellsT,setW_mem,←t3.2 c]
   constructor
   ·rintro ⟨_,h | h⟩
    ·rw [xP] at h;simp [setOfL] at h
    ·exact h
   ·intro h
    refine ⟨inB_root.2 (hsu3 _ _ ((setW_mem s _ _ _ _).2 (.inr h))),.inr h⟩
  have hlen:=List.Nodup.length_le_of_subset (cellsT_nodup (setW x.P x.k s).1 ((setW x.P x.k s).2+1) (-2^(setW x.P x.k s).2) (-2^(setW x.P x.k s).2)) (l₂:=l) fun c hc=>(hmem c).1 hc
  obtain ⟨c4,W4,K4,t4⟩:=lea_get_yes (y:={x with root:=z3,P:=(setW x.P x.k s).1,k:=(setW x.P x.k s).2}) W3 K3 hk kn (by rw [kr];exact and_one (.inr hr)) (by show (cellsT _ _ _ _).length≤4096;exact Nat.le_trans hlen (by omega)) D4
  obtain ⟨c5,c7⟩:=fin {x with root:=z3,P:=(setW x.P x.k s).1,k:=(setW x.P x.k s).2} rfl W4 K4
  exact ⟨c1,c2,c5,c7,.inr (.inr ⟨hr,c3,c4,⟨t4.1,fun c=>(t4.2 c).trans (hmem c)⟩⟩)⟩
end Go.Proofs.YthohnjgnpapnoaaGreatDoor
namespace Go.Proofs.YthohnjgnpapnoaaGreatDoor
open Go.RowKit
def nearC (near:Int) (c:Int×Int):Int×Int:=(c.1%(2*near)-near,c.2%(2*near)-near)
def someL (l:List (Int×Int)) (most:Nat) (near:Int):List (Int×Int):=(l.take most).map (nearC near)
theorem nearC_lt (near:Int) (h:0<near) (c:Int×Int):(-near≤(nearC near c).1∧(nearC near c).1<near)∧(-near≤(nearC near c).2∧(nearC near c).2<near):=by
 unfold nearC
 have h1:=Int.emod_nonneg c.1 (show 2*near≠0 by omega)
 have h2:=Int.emod_lt_of_pos c.1 (show 0<2*near by omega)
 have h3:=Int.emod_nonneg c.2 (show 2*near≠0 by omega)
 have h4:=Int.emod_lt_of_pos c.2 (show 0<2*near by omega)
 dsimp only
 omega
theorem someL_near {l:List (Int×Int)} {most:Nat} {near:Int} (h:0<near) {c:Int×Int} (hc:c∈someL l most near):(-near≤c.1∧c.1<near)∧(-near≤c.2∧c.2<near):=by
 unfold someL at hc
 simp only [List.mem_map] at hc
 obtain ⟨a,_,rfl⟩:=hc
 exact nearC_lt near h a
theorem someL_length (l:List (Int×Int)) (most:Nat) (near:Int):(someL l most near).length=min most l.length:=by simp [someL]
theorem someL_step (l:List (Int×Int)) (k:Nat) (near:Int) (hk:k<l.length):someL l (k+1) near=someL l k near++ [nearC near l[k]!]:=by
 unfold someL
 rw [List.take_add_one,List.map_append,List.getElem?_eq_getElem hk,List.getElem!_eq_getElem?_getD,List.getElem?_eq_getElem hk]
 simp
theorem cell_alloc_drew {w:World} {o:Obj} {b i:Nat} {u:Value} (hb:b<w.heap.size) (h:w.cell? ⟨b,i,none⟩=some u):((w.alloc o).drew).cell? ⟨b,i,none⟩=some u:=
 (World.cell?_alloc_lt w o (a:=⟨b,i,none⟩) hb).trans h
theorem cell_lt {w:World} {o:Obj} {b i:Nat} (hb:b<w.heap.size):(⟨b,i,none⟩:Addr).block<((w.alloc o).drew).heap.size:=by
 show b<(w.alloc o).heap.size
 rw [World.size_alloc];omega
def SomePost (w:World) (n most:Nat) (l:List (Int×Int)) (near:Int) (e:Ending) (w':World):Prop:=
 ∃v',e= .returned v'∧Sl w' 109 2 v' (min most n) (flat (someL l most near))∧(∀b,sblk v'=some b→w.heap.size≤b)∧Below w.heap.size w w'
set_option maxRecDepth 100000 in
set_option maxHeartbeats 3200000 in
theorem some_any (w:World) (n most:Nat) (v:Value) (l:List (Int×Int)) (near:Int) (h:Rd w w.heap.size 2 v n (flat l)) (hin:∀c∈l,inC c) (hmost:most≤4096) (hn1:1≤near) (hn2:near≤1152921504606846976):
 Calls Tryz.prog 28 #[v,.int .i64 most,.int .i64 near] w (SomePost w n most l near):=by
 obtain ⟨A,cap,rfl,hc1,hc2⟩:=h.form
 obtain ⟨hl,hat⟩:=h.pairs
 have HAT:=Lib.hid hat
 have HIN:=Lib.hid hin
 have HL:=Lib.hid hl
 have HNIL:=Lib.hid (Sl.nil w 109 2)
 clear h hat hin hl
 unfold maxLen at hc2
 go_enter Tryz.func28,Tryz.ntmps28
 go_wp2
 go_loopw [7,8] (fun av iv wx=>∃k:Nat,k≤n∧k≤most∧iv= .int .i64 k∧Sl wx 109 2 av k (flat (someL l k near))∧(∀b,sblk av=some b→w.heap.size≤b)∧Below w.heap.size w wx) (fun _ iv _=>n-(intOf iv).toNat)
 case atStart=>exact ⟨0,Nat.zero_le _,Nat.zero_le _,rfl,HNIL.out,fun b hb=>by simp [sblk] at hb,Below.refl _ _⟩
 case round=>
  obtain ⟨k,hkn,hkm,rfl,hs,hf,hb⟩:=hrel
  by_cases hlt:k<n
  ·by_cases hlm:k<most
   ·obtain ⟨b,off,cap',he,_,_,hb1,hcs⟩:=HAT.out (by omega)
    injection he with he1 he2 he3
    subst he1 he3
    obtain ⟨c1,c2⟩:=hcs k hlt
    rw [←hb.cell (p:=⟨b,off+k*2,none⟩) (by show b<_;omega)] at c1
    rw [←hb.cell (p:=⟨b,off+k*2+1,none⟩) (by show b<_;omega)] at c2
    have hok:inC l[k]! :=HIN.out _ (by rw [List.getElem!_eq_getElem?_getD,List.getElem?_eq_getElem (by rw [HL.out];exact hlt)];simp)
    have hstep:=someL_step l k near (by rw [HL.out];exact hlt)
    have hnr:=nearC_lt near (by omega) l[k]!
    generalize l[k]! =c at c1 c2 hok hstep hnr
    obtain ⟨x,y⟩:=c
    obtain ⟨⟨o1,o2⟩,o3,o4⟩:=hok
    obtain ⟨⟨p1,p2⟩,p3,p4⟩:=hnr
    unfold nearC at p1 p2 p3 p4 hstep
    dsimp only at o1 o2 o3 o4 p1 p2 p3 p4
    have HSTEP:=Lib.hid hstep
    have HS:=Lib.hid hs
    have HF:=Lib.hid hf
    have HB:=Lib.hid hb
    have e1:=IntWalk.i64_in (2*near) (by omega)
    have e2:=IntWalk.i64_in (x%(2*near)-near) (by omega)
    have e3:=IntWalk.i64_in (y%(2*near)-near) (by omega)
    have HX:=Lib.hid (And.intro o1 o2)
    have HY:=Lib.hid (And.intro o3 o4)
    have HNR:Hid (1≤2*near∧2*near≤4611686018427387904):=⟨by omega,by omega⟩
    have hblt:b<wr.heap.size:=Nat.lt_of_lt_of_le hb1 hb.size
    have hsz:=hb.size
    clear hstep hs hf hb hcs p1 p2 p3 p4 o1 o2 o3 o4
    go_wp2_with fail
    go_region_held3 (fun w'=>w'.cell? ⟨b,off+k*2,none⟩=some (.int .i64 x)∧w'.cell? ⟨b,off+k*2+1,none⟩=some (.int .i64 y)) (first | exact ⟨c1,c2⟩ | exact ⟨cell_alloc_drew hblt c1,cell_alloc_drew hblt c2⟩ | exact ⟨hm4c c1,hm4c c2⟩)
     (first
       | (go_at_call 23;refine (spot_any _ (2*near) HNR.out.1 HNR.out.2 (by first | exact HX.out.1 | exact HY.out.1) (by first | exact HX.out.2 | exact HY.out.2) _).mono ?_;rintro e w' ⟨rfl,rfl⟩)
       | (refine step_append_sl _ rfl (.tmp 20) (.tmp 42) 55 rfl 109 (.agg #[.int .i64 0,.int .i64 0]) 2 16 Tryz.underlying55 Tryz.info109 rfl (by decide) rfl (by exact (HS.out.alloc _)) rfl (by exact (fresh_cells wr [(x%(2*near)-near,y%(2*near)-near)] 1 rfl (by unfold maxLen;omega))) flat_one (by omega) (by unfold maxLen;omega) ?_;intro v4 w4 hs4 hm4 hd4;have hm4c:∀{i:Nat} {u:Value},wr.cell? ⟨b,i,none⟩=some u→w4.cell? ⟨b,i,none⟩=some u:=fun h=>(hm4.cell (a:=⟨b,_,none⟩) (cell_lt hblt) (fun he=>by have:=HF.out b he;omega)).trans (cell_alloc_drew hblt h)))
    have hba:Below w.heap.size w ((wr.alloc (.cells #[.int .i64 (x%(2*near)-near),.int .i64 (y%(2*near)-near)] 109)).drew):=
     let hz:=HB.out.alloc hsz (.cells #[.int .i64 (x%(2*near)-near),.int .i64 (y%(2*near)-near)] 109)
     ⟨hz.os,hz.tape,hz.output,hz.size,hz.block⟩
    obtain ⟨f1,f2⟩:=fresh_of (w:=w) hm4 hd4 hba HF.out
    have HS4:Hid (Sl w4 109 2 v4 (k+1) (flat (someL l (k+1) near))):=by
     show Sl _ _ _ _ _ _
     rw [HSTEP.out,flat_append];exact hs4
    have HF1:=Lib.hid f1
    have HF2:=Lib.hid f2
    clear hs4 hm4 hd4 f1 f2 hba e1 e2 e3
    go_wp2
    go_roundw
    case rel=>exact ⟨k+1,by omega,by omega,by go_num,HS4.out,HF1.out,HF2.out⟩
    case measure=>simp [intOf];omega
   ·obtain rfl:k=most:=by omega
    have hmin:min k n=k:=by omega
    have HS:=Lib.hid hs
    have HF:=Lib.hid hf
    have HB:=Lib.hid hb
    clear hs hf hb
    go_wp2
    go_ret
    exact ⟨_,rfl,by rw [hmin];exact HS.out,HF.out,HB.out⟩
  ·obtain rfl:k=n:=by omega
   have hmin:min most k=k:=by omega
   have HS:=Lib.hid hs
   have HF:=Lib.hid hf
   have HB:=Lib.hid hb
   have hall:someL l k near=someL l most near:=by
    unfold someL
    rw [List.take_of_length_le (by have:=HL.out;omega),List.take_of_length_le (by have:=HL.out;omega)]
   have HALL:=Lib.hid hall
   clear hs hf hb hall
   go_wp2
   go_ret
   exact ⟨_,rfl,by rw [hmin,←HALL.out];exact HS.out,HF.out,HB.out⟩
end Go.Proofs.YthohnjgnpapnoaaGreatDoor
