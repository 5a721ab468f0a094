/- container/heap over arena.numbers: what is pushed and popped, as a multiset. · container/heap.Push and Pop over a field of numbers. · An arena in memory. · The arena's index: map[key]int. · An arena in memory: what it is, what may be read, what a step leaves alone. · The arena's functions that read alone: owns, Level, Count, Live. -/
import Derived.Test.YthohnjgnpapnoaaGreatDoorR3
import Derived.DeepKeys4
import Derived.Maps.OwnSet
import Derived.Laws.BitsAllLaws
set_option linter.unusedVariables false
set_option linter.unusedSimpArgs false
namespace Go.Proofs.YthohnjgnpapnoaaGreatDoor
open Go.RowKit
abbrev hV (p o:Nat):Value:= .iface 270 (.pointer (some ⟨p,o,none⟩))
theorem perm_swap {l:List Int} {i j:Nat} {x y:Int} (hi:l[i]? =some x) (hj:l[j]? =some y):List.Perm ((l.set i y).set j x) l:=by
 obtain ⟨i1,rfl⟩:=List.getElem?_eq_some_iff.1 hi
 obtain ⟨j1,rfl⟩:=List.getElem?_eq_some_iff.1 hj
 have h:=Array.swap_perm (xs:=l.toArray) (i:=i) (j:=j) (by simpa using i1) (by simpa using j1)
 have h2:=Array.perm_iff_toList_perm.1 h
 simpa [Array.swap] using h2
theorem half_lt {i j n:Nat} (h:j=2*i+1∨j=2*i+2) (hjn:j<n):i<n∧i<j:=by omega
theorem wrap_nat {i:Nat} (h:i≤4000000):wrap64 (i:Int)=i:=by unfold wrap64;omega
theorem half_ne {i j:Nat} (h:j=2*i+1∨j=2*i+2):((i:Int)==(j:Int))=false:=by rw [beq_eq_false_iff_ne];omega
theorem half_div {i j:Nat} (h:j=2*i+1∨j=2*i+2):Int.tdiv ((j:Int)-1) 2=(i:Int):=by
 rw [Int.tdiv_eq_ediv_of_nonneg (by omega)];omega
theorem wrap_pred {j:Nat} (h:j≤4000000):IntKind.i64.wrap ((j:Int)-1)=(j:Int)-1:=by rw [IntKind.wrap_i64];omega
set_option maxRecDepth 100000 in
set_option maxHeartbeats 3200000 in
theorem up_any (w:World) (p o:Nat) (v:Value) (n:Nat) (l:List Int) (hp:w.cell? ⟨p,o,none⟩=some v) (h:Sl w IT 1 v n (intsV l)) (hne:sblk v≠some p) (j:Nat) (hj:j<n) (hn:n≤1000000):
 Calls Tryz.prog 210 #[hV p o,.int .i64 j] w fun e w'=>∃l',e= .returned (.tuple #[])∧List.Perm l' l∧Sl w' IT 1 v n (intsV l')∧Mod (fun b=>sblk v=some b) w w':=by
 have H:=Lib.hid h
 have hpl:=World.block_lt_of_cell? w _ hp
 have hpl:p<w.heap.size:=hpl
 have HP:=Lib.hid hp
 have HNE:=Lib.hid hne
 clear h hp hne
 unfold hV
 go_enter Tryz.func210,Tryz.ntmps210
 go_wp2_with fail
 go_loopw [1] (fun jv wx=>∃(j:Nat) (l':List Int),jv= .int .i64 j∧j<n∧List.Perm l' l∧Sl wx IT 1 v n (intsV l')∧Mod (fun b=>sblk v=some b) w wx) (fun jv _=>(intOf jv).toNat)
 case atStart=>exact ⟨j,l,rfl,hj,.refl _,H.out,Mod.refl _ _⟩
 case round=>
  obtain ⟨j,l',rfl,hjn,hpe,hs,hm⟩:=hrel
  have HPE:=Lib.hid hpe
  have HS:=Lib.hid hs
  have HM:=Lib.hid hm
  have c0:wr.cell? ⟨p,o,none⟩=some v:=(hm.cell (a:=⟨p,o,none⟩) hpl HNE.out).trans HP.out
  have hln:=hs.out
  obtain ⟨A,cap,hv,_,_⟩:=hs.form
  subst hv
  clear hpe hs hm
  have hml:∀fuel,(method (fuel+1) 270 (.pointer (some ⟨p,o,none⟩)) "Less").run Tryz.prog wr= .ok (261,.slice A n cap) wr:=fun fuel=>meth_less fuel c0
  have hms:∀fuel,(method (fuel+1) 270 (.pointer (some ⟨p,o,none⟩)) "Swap").run Tryz.prog wr= .ok (262,.slice A n cap) wr:=fun fuel=>meth_swap fuel c0
  rcases Nat.eq_zero_or_pos j with rfl | hj0
  ·have hq:(Int.tdiv (-1) 2)=0:=by decide
   go_wp2_with fail
   go_end0
   exact ⟨l',rfl,HPE.out,HS.out,HM.out⟩
  ·obtain ⟨i,hi⟩:∃i:Nat,j=2*i+1∨j=2*i+2:=⟨(j-1)/2,by omega⟩
   obtain ⟨hi1,hi2⟩:=half_lt hi hjn
   have hq:=half_div hi
   have hne:=half_ne hi
   have hj4:j≤4000000:=Nat.le_trans (Nat.le_of_lt hjn) (Nat.le_trans hn (by decide))
   have hwj:=wrap_pred hj4
   have hwi:=wrap_nat (Nat.le_trans (Nat.le_of_lt hi2) hj4)
   obtain ⟨x,hx⟩:∃x,l'[i]? =some x:=⟨l'[i]'(by rw [hln];exact hi1),List.getElem?_eq_getElem _⟩
   obtain ⟨y,hy⟩:∃x,l'[j]? =some x:=⟨l'[j]'(by rw [hln];exact hjn),List.getElem?_eq_getElem _⟩
   have HI1:=Lib.hid hi1
   have HI2:=Lib.hid hi2
   clear hi hj4 hi1 hi2
   go_wp2_with fail
   (with_reducible refine (less_any wr _ n l' HS.out j i y x hy hx).mono ?_)
   rintro e w2 ⟨rfl,hb2,hh2⟩
   have HS2:Hid (Sl w2 IT 1 (.slice A n cap) n (intsV l')):=HS.out.of_blk fun b _=>by rw [hh2]
   have c2:w2.cell? ⟨p,o,none⟩=some (.slice A n cap):=(World.cell?_of_block (a:=⟨p,o,none⟩) (by rw [hh2])).trans c0
   have HM2:Hid (Mod (fun b=>sblk (.slice A n cap)=some b) w w2):=HM.out.trans (Mod.of_below_all hb2) (fun _ _ h=>h.elim)
   clear hml hms c0
   have hms:∀fuel,(method (fuel+1) 270 (.pointer (some ⟨p,o,none⟩)) "Swap").run Tryz.prog w2= .ok (262,.slice A n cap) w2:=fun fuel=>meth_swap fuel c2
   clear hb2 hh2
   by_cases hyx:y<x
   ·have hd:decide (y<x)=true:=decide_eq_true hyx
    rw [hd]
    clear hd hyx
    go_wp2_with fail
    (with_reducible refine (swap_any w2 _ n l' HS2.out i j x y hx hy).mono ?_)
    rintro e w3 ⟨rfl,hs3,hm3⟩
    have HS3:=Lib.hid hs3
    have HM3:Hid (Mod (fun b=>sblk (.slice A n cap)=some b) w w3):=HM2.out.trans hm3 (fun _ _ h=>h)
    have HPE3:Hid (List.Perm ((l'.set i y).set j x) l):=(perm_swap hx hy).trans HPE.out
    clear hs3 hm3
    go_wp2_with fail
    go_roundw
    case rel=>exact ⟨i,_,rfl,HI1.out,HPE3.out,HS3.out,HM3.out⟩
    case measure=>simp [intOf];exact HI2.out
   ·have hd:decide (y<x)=false:=decide_eq_false hyx
    rw [hd]
    clear hd hyx
    go_wp2_with fail
    go_end0
    exact ⟨l',rfl,HPE.out,HS2.out,HM2.out⟩
theorem keep_set {l:List Int} {i j k n:Nat} {x y:Int} (hi:i<n) (hj:j<n) (hk:n≤k):((l.set i y).set j x)[k]? =l[k]? :=by
 rw [List.getElem?_set_ne (by omega),List.getElem?_set_ne (by omega)]
theorem wrap_two {i:Nat} (h:i≤1000000):IntKind.i64.wrap (2*(i:Int))=2*(i:Int)∧IntKind.i64.wrap (2*(i:Int)+1)=2*(i:Int)+1∧IntKind.i64.wrap (2*(i:Int)+1+1)=2*(i:Int)+1+1:=by
 refine ⟨?_,?_,?_⟩<;>(rw [IntKind.wrap_i64];omega)
def DownPost (w:World) (v:Value) (N n:Nat) (l:List Int) (e:Ending) (w':World):Prop:=
 ∃l' b,e= .returned (.bool b)∧List.Perm l' l∧(∀k,n≤k→l'[k]? =l[k]?)∧Sl w' IT 1 v N (intsV l')∧Mod (fun b=>sblk v=some b) w w'
theorem same_heap {w w2:World} {p o N:Nat} {v:Value} {l:List Int} {S:Nat→Prop} {w0:World} (hb:Below w.heap.size w w2) (hh:w2.heap=w.heap) (h:Sl w IT 1 v N (intsV l)) (c:w.cell? ⟨p,o,none⟩=some v) (hm:Mod S w0 w):
 Sl w2 IT 1 v N (intsV l)∧w2.cell? ⟨p,o,none⟩=some v∧Mod S w0 w2:=
 ⟨h.of_blk fun b _=>by rw [hh],(World.cell?_of_block (a:=⟨p,o,none⟩) (by rw [hh])).trans c,hm.trans (Mod.of_below_all hb) (fun _ _ h=>h.elim)⟩
set_option maxRecDepth 100000 in
set_option maxHeartbeats 3200000 in
theorem down_any (w:World) (p o:Nat) (v:Value) (N n:Nat) (l:List Int) (hp:w.cell? ⟨p,o,none⟩=some v) (h:Sl w IT 1 v N (intsV l)) (hne:sblk v≠some p) (hnN:n<N) (hN:N≤1000000):
 Calls Tryz.prog 211 #[hV p o,.int .i64 0,.int .i64 n] w (DownPost w v N n l):=by
 have H:=Lib.hid h
 have hpl:=World.block_lt_of_cell? w _ hp
 have hpl:p<w.heap.size:=hpl
 have HPL:=Lib.hid hpl
 have HNN:=Lib.hid hnN
 have HNM:=Lib.hid hN
 have HP:=Lib.hid hp
 have HNE:=Lib.hid hne
 clear h hp hne hpl hnN hN
 unfold hV
 go_enter Tryz.func211,Tryz.ntmps211
 go_wp2_with fail
 go_loopw [7] (fun iv wx=>∃(i:Nat) (l':List Int),iv= .int .i64 i∧i<N∧List.Perm l' l∧(∀k,n≤k→l'[k]? =l[k]?)∧Sl wx IT 1 v N (intsV l')∧Mod (fun b=>sblk v=some b) w wx) (fun iv _=>N-(intOf iv).toNat)
 case atStart=>exact ⟨0,l,rfl,by have:=HNN.out;omega,.refl _,fun _ _=>rfl,H.out,Mod.refl _ _⟩
 case round=>
  obtain ⟨i,l',rfl,hiN,hpe,hkp,hs,hm⟩:=hrel
  have HIN:=Lib.hid hiN
  have HPE:=Lib.hid hpe
  have HKP:=Lib.hid hkp
  have HS:=Lib.hid hs
  have HM:=Lib.hid hm
  have c0:wr.cell? ⟨p,o,none⟩=some v:=(hm.cell (a:=⟨p,o,none⟩) HPL.out HNE.out).trans HP.out
  have HLN:=Lib.hid hs.out
  obtain ⟨A,cap,hv,_,_⟩:=hs.form
  subst hv
  obtain ⟨hw1,hw2,hw3⟩:=wrap_two (i:=i) (by have:=HNM.out;omega)
  obtain ⟨j1,hj1⟩:∃j1:Nat,j1=2*i+1:=⟨_,rfl⟩
  have hjc:(2*(i:Int)+1)=(j1:Int):=by omega
  obtain ⟨j2,hj2⟩:∃j2:Nat,j2=j1+1:=⟨_,rfl⟩
  have hjd:((j1:Int)+1)=(j2:Int):=by omega
  rw [hjc] at hw2 hw3
  rw [hjd] at hw3
  have HJ1:=Lib.hid hj1
  have HJ2:=Lib.hid hj2
  have hn0:¬((j1:Int)<0):=by omega
  clear hpe hkp hs hm hiN hj1 hj2
  by_cases hlt:j1<n
  ·have HLT:=Lib.hid hlt
   have hlt':(j1:Int)<(n:Int):=by omega
   have hml:=fun fuel=>meth_less (p:=p) (o:=o) fuel c0
   obtain ⟨x,hx⟩:∃x,l'[i]? =some x:=⟨l'[i]'(by rw [HLN.out];exact HIN.out),List.getElem?_eq_getElem _⟩
   obtain ⟨y1,hy1⟩:∃x,l'[j1]? =some x:=⟨l'[j1]'(by have:=HLN.out;have:=HNN.out;omega),List.getElem?_eq_getElem _⟩
   clear hlt
   by_cases h2:j2<n
   ·have H2:=Lib.hid h2
    have hlt2:(j2:Int)<(n:Int):=by omega
    obtain ⟨y2,hy2⟩:∃x,l'[j2]? =some x:=⟨l'[j2]'(by have:=HLN.out;have:=HNN.out;omega),List.getElem?_eq_getElem _⟩
    clear h2
    go_wp2_with fail
    (with_reducible refine (less_any _ _ N l' HS.out j2 j1 y2 y1 hy2 hy1).mono ?_)
    rintro e w2 ⟨rfl,hb2,hh2⟩
    obtain ⟨hs2,c2,hm2⟩:=same_heap hb2 hh2 HS.out c0 HM.out
    have HS2:=Lib.hid hs2
    have HM2:=Lib.hid hm2
    clear hb2 hh2 hs2 hm2 hml
    have hml:=fun fuel=>meth_less (p:=p) (o:=o) fuel c2
    by_cases h21:y2<y1
    ·have hd:decide (y2<y1)=true:=decide_eq_true h21
     rw [hd]
     clear hd h21
     go_wp2_with fail
     (with_reducible refine (less_any _ _ N l' HS2.out j2 i y2 x hy2 hx).mono ?_)
     rintro e w4 ⟨rfl,hb4,hh4⟩
     obtain ⟨hs4,c4,hm4⟩:=same_heap hb4 hh4 HS2.out c2 HM2.out
     have HS4:=Lib.hid hs4
     have HM4:=Lib.hid hm4
     clear hb4 hh4 hs4 hm4
     have hms:=fun fuel=>meth_swap (p:=p) (o:=o) fuel c4
     by_cases hyx:y2<x
     ·have hd:decide (y2<x)=true:=decide_eq_true hyx
      rw [hd]
      clear hd hyx
      go_wp2_with fail
      (with_reducible refine (swap_any w4 _ N l' HS4.out i j2 x y2 hx hy2).mono ?_)
      rintro e w5 ⟨rfl,hs5,hm5⟩
      have HS5:=Lib.hid hs5
      have HM5:=Lib.hid (HM4.out.trans hm5 (fun _ _ h=>h))
      have HPE5:Hid (List.Perm ((l'.set i y2).set j2 x) l):=(perm_swap hx hy2).trans HPE.out
      clear hs5 hm5 hms c4
      have hin:i<n:=by have:=H2.out;have:=HJ1.out;have:=HJ2.out;omega
      have HKP5:Hid (∀k,n≤k→((l'.set i y2).set j2 x)[k]? =l[k]?):=fun k hk=>(keep_set hin H2.out hk).trans (HKP.out k hk)
      have HJN:Hid (j2<N):=Nat.lt_trans H2.out HNN.out
      have HIJ:Hid (i<j2):=by have:=HJ1.out;have:=HJ2.out;show i<j2;omega
      have HINN:=Lib.hid hin
      clear hin
      go_wp2_with fail
      go_roundw
      case rel=>exact ⟨j2,_,rfl,HJN.out,HPE5.out,HKP5.out,HS5.out,HM5.out⟩
      case measure=>simp [intOf];have:=HIJ.out;have:=HIN.out;omega
     ·have hd:decide (y2<x)=false:=decide_eq_false hyx
      rw [hd]
      clear hd hyx
      go_wp2_with fail
      go_ret
      exact ⟨l',_,rfl,HPE.out,HKP.out,HS4.out,HM4.out⟩
    ·have hd:decide (y2<y1)=false:=decide_eq_false h21
     rw [hd]
     clear hd h21
     go_wp2_with fail
     (with_reducible refine (less_any _ _ N l' HS2.out j1 i y1 x hy1 hx).mono ?_)
     rintro e w4 ⟨rfl,hb4,hh4⟩
     obtain ⟨hs4,c4,hm4⟩:=same_heap hb4 hh4 HS2.out c2 HM2.out
     have HS4:=Lib.hid hs4
     have HM4:=Lib.hid hm4
     clear hb4 hh4 hs4 hm4
     have hms:=fun fuel=>meth_swap (p:=p) (o:=o) fuel c4
     by_cases hyx:y1<x
     ·have hd:decide (y1<x)=true:=decide_eq_true hyx
      rw [hd]
      clear hd hyx
      go_wp2_with fail
      (with_reducible refine (swap_any w4 _ N l' HS4.out i j1 x y1 hx hy1).mono ?_)
      rintro e w5 ⟨rfl,hs5,hm5⟩
      have HS5:=Lib.hid hs5
      have HM5:=Lib.hid (HM4.out.trans hm5 (fun _ _ h=>h))
      have HPE5:Hid (List.Perm ((l'.set i y1).set j1 x) l):=(perm_swap hx hy1).trans HPE.out
      clear hs5 hm5 hms c4
      have hin:i<n:=by have:=HLT.out;have:=HJ1.out;have:=HJ2.out;omega
      have HKP5:Hid (∀k,n≤k→((l'.set i y1).set j1 x)[k]? =l[k]?):=fun k hk=>(keep_set hin HLT.out hk).trans (HKP.out k hk)
      have HJN:Hid (j1<N):=Nat.lt_trans HLT.out HNN.out
      have HIJ:Hid (i<j1):=by have:=HJ1.out;have:=HJ2.out;show i<j1;omega
      have HINN:=Lib.hid hin
      clear hin
      go_wp2_with fail
      go_roundw
      case rel=>exact ⟨j1,_,rfl,HJN.out,HPE5.out,HKP5.out,HS5.out,HM5.out⟩
      case measure=>simp [intOf];have:=HIJ.out;have:=HIN.out;omega
     ·have hd:decide (y1<x)=false:=decide_eq_false hyx
      rw [hd]
      clear hd hyx
      go_wp2_with fail
      go_ret
      exact ⟨l',_,rfl,HPE.out,HKP.out,HS4.out,HM4.out⟩
   ·have hlt2:(n:Int)≤(j2:Int):=by omega
    clear h2
    go_wp2_with fail
    (with_reducible refine (less_any _ _ N l' HS.out j1 i y1 x hy1 hx).mono ?_)
    rintro e w4 ⟨rfl,hb4,hh4⟩
    obtain ⟨hs4,c4,hm4⟩:=same_heap hb4 hh4 HS.out c0 HM.out
    have HS4:=Lib.hid hs4
    have HM4:=Lib.hid hm4
    clear hb4 hh4 hs4 hm4
    have hms:=fun fuel=>meth_swap (p:=p) (o:=o) fuel c4
    by_cases hyx:y1<x
    ·have hd:decide (y1<x)=true:=decide_eq_true hyx
     rw [hd]
     clear hd hyx
     go_wp2_with fail
     (with_reducible refine (swap_any w4 _ N l' HS4.out i j1 x y1 hx hy1).mono ?_)
     rintro e w5 ⟨rfl,hs5,hm5⟩
     have HS5:=Lib.hid hs5
     have HM5:=Lib.hid (HM4.out.trans hm5 (fun _ _ h=>h))
     have HPE5:Hid (List.Perm ((l'.set i y1).set j1 x) l):=(perm_swap hx hy1).trans HPE.out
     clear hs5 hm5 hms c4
     have hin:i<n:=by have:=HLT.out;have:=HJ1.out;have:=HJ2.out;omega
     have HKP5:Hid (∀k,n≤k→((l'.set i y1).set j1 x)[k]? =l[k]?):=fun k hk=>(keep_set hin HLT.out hk).trans (HKP.out k hk)
     have HJN:Hid (j1<N):=Nat.lt_trans HLT.out HNN.out
     have HIJ:Hid (i<j1):=by have:=HJ1.out;have:=HJ2.out;show i<j1;omega
     have HINN:=Lib.hid hin
     clear hin
     go_wp2_with fail
     go_roundw
     case rel=>exact ⟨j1,_,rfl,HJN.out,HPE5.out,HKP5.out,HS5.out,HM5.out⟩
     case measure=>simp [intOf];have:=HIJ.out;have:=HIN.out;omega
    ·have hd:decide (y1<x)=false:=decide_eq_false hyx
     rw [hd]
     clear hd hyx
     go_wp2_with fail
     go_ret
     exact ⟨l',_,rfl,HPE.out,HKP.out,HS4.out,HM4.out⟩
  ·have hge:(n:Int)≤(j1:Int):=by omega
   clear hlt
   go_wp2_with fail
   go_ret
   exact ⟨l',_,rfl,HPE.out,HKP.out,HS.out,HM.out⟩
end Go.Proofs.YthohnjgnpapnoaaGreatDoor
namespace Go.Proofs.YthohnjgnpapnoaaGreatDoor
open Go.RowKit
structure FrM (w:World) (p o T:Nat) (cs:Array Value) (v:Value) (n:Nat) (l:List Int):Prop where
 blk:Blk w p T cs
 at_:cs[o]? =some v
 sl:Sl w IT 1 v n (intsV l)
 ne:sblk v≠some p
theorem FrM.cell {w:World} {p o T n:Nat} {cs:Array Value} {v:Value} {l:List Int} (h:FrM w p o T cs v n l):w.cell? ⟨p,o,none⟩=some v:=h.blk.cellS h.at_
theorem FrM.frozen {w:World} {p o T n:Nat} {cs:Array Value} {v:Value} {l:List Int} (h:FrM w p o T cs v n l):w.frozen? ⟨p,o,none⟩=false:=h.blk.frozen o
theorem FrM.wrote {w w':World} {p o T n n':Nat} {cs:Array Value} {v v':Value} {l l':List Int} {S:Nat→Prop} (h:FrM w p o T cs v n l) (hw:Wrote S w w' p o v') (hs:Sl w' IT 1 v' n' (intsV l')) (hn:sblk v'=sblk v∨∃q,sblk v'=some q∧w.heap.size≤q):
 FrM w' p o T (cs.setIfInBounds o v') v' n' l':=by
 refine ⟨hw.blk _ _ h.blk,?_,hs,?_⟩
 ·have:=(Array.getElem?_eq_some_iff.1 h.at_).1
  simp [this]
 ·rcases hn with e | ⟨q,e,hq⟩
  ·rw [e];exact h.ne
  ·rw [e];intro e2;have:=Option.some.inj e2;have:=h.blk.lt;omega
theorem FrM.turned {w w':World} {p o T n:Nat} {cs:Array Value} {v:Value} {l l':List Int} (h:FrM w p o T cs v n l) (hm:Mod (fun b=>sblk v=some b) w w') (hs:Sl w' IT 1 v n (intsV l')):FrM w' p o T cs v n l':=
 ⟨h.blk.mod hm h.ne,h.at_,hs,h.ne⟩
def PushPost (w:World) (p o T:Nat) (cs:Array Value) (v:Value) (n:Nat) (l:List Int) (x:Int) (e:Ending) (w':World):Prop:=
 ∃v' l',e= .returned (.tuple #[])∧List.Perm l' (l++ [x])∧FrM w' p o T (cs.setIfInBounds o v') v' (n+1) l'∧(sblk v'=sblk v∨∃q,sblk v'=some q∧w.heap.size≤q)∧Mod (fun b=>b=p∨sblk v=some b) w w'
def PopPost (w:World) (p o T:Nat) (cs:Array Value) (v:Value) (n:Nat) (l:List Int) (e:Ending) (w':World):Prop:=
 ∃v' l' x,e= .returned (iface x)∧List.Perm (x::l') l∧FrM w' p o T (cs.setIfInBounds o v') v' n l'∧sblk v'=sblk v∧Mod (fun b=>b=p∨sblk v=some b) w w'
set_option maxRecDepth 100000 in
set_option maxHeartbeats 3200000 in
theorem hpush_any (w:World) (p o T n:Nat) (cs:Array Value) (v:Value) (l:List Int) (h:FrM w p o T cs v n l) (x:Int) (hn:n<1000000):
 Calls Tryz.prog 188 #[hV p o,iface x] w (PushPost w p o T cs v n l x):=by
 have H:=Lib.hid h
 have hmp:=fun fuel=>meth_push w p o fuel
 clear h
 unfold hV
 go_enter Tryz.func188,Tryz.ntmps188
 go_wp2_with fail
 (with_reducible refine (npush_any w p o v n l H.out.cell H.out.frozen H.out.sl H.out.ne x (Nat.le_of_lt hn)).mono ?_)
 rintro e w1 ⟨v1,rfl,hs1,hn1,hw1⟩
 have HF1:=Lib.hid (H.out.wrote hw1 hs1 hn1)
 have HN1:=Lib.hid hn1
 have HM1:=Lib.hid hw1.mod
 obtain ⟨A1,cap1,rfl,_,_⟩:=hs1.form
 have c1:=HF1.out.cell
 have hml:=fun fuel=>meth_len (p:=p) (o:=o) fuel c1
 clear hs1 hn1 hw1 hmp
 go_wp2_with fail
 (with_reducible refine (len_any w1 A1 (n+1) cap1).mono ?_)
 rintro e w2 ⟨rfl,rfl⟩
 have hwn:=wrap_nat (i:=n) (by omega)
 go_wp2_with fail
 (with_reducible refine (up_any w1 p o _ (n+1) (l++ [x]) c1 HF1.out.sl HF1.out.ne n (by omega) (by omega)).mono ?_)
 rintro e w3 ⟨l',rfl,hpe,hs3,hm3⟩
 have HF3:=Lib.hid (HF1.out.turned hm3 hs3)
 have HP3:=Lib.hid hpe
 have HM3:Hid (Mod (fun b=>b=p∨sblk v=some b) w w3):=HM1.out.trans hm3 (fun b hb he=>by
  rcases HN1.out with h | ⟨q,h,hq⟩
  ·exact .inr (by rw [←h];exact he)
  ·rw [h] at he;have:=Option.some.inj he;omega)
 clear hpe hs3 hm3 hml
 go_wp2_with fail
 go_end0
 exact ⟨_,l',rfl,HP3.out,HF3.out,HN1.out,HM3.out⟩
set_option maxRecDepth 100000 in
set_option maxHeartbeats 3200000 in
theorem hpop_any (w:World) (p o T n:Nat) (cs:Array Value) (v:Value) (l:List Int) (h:FrM w p o T cs v (n+1) l) (hn:n<1000000):
 Calls Tryz.prog 189 #[hV p o] w (PopPost w p o T cs v n l):=by
 have H:=Lib.hid h
 obtain ⟨A,cap,rfl,_,_⟩:=h.sl.form
 have c0:=h.cell
 have hml:=fun fuel=>meth_len (p:=p) (o:=o) fuel c0
 have hms:=fun fuel=>meth_swap (p:=p) (o:=o) fuel c0
 clear h
 unfold hV
 go_enter Tryz.func189,Tryz.ntmps189
 go_wp2_with fail
 (with_reducible refine (len_any w A (n+1) cap).mono ?_)
 rintro e wq ⟨rfl,rfl⟩
 have hwn:=wrap_nat (i:=n) (by omega)
 have HL:=Lib.hid H.out.sl.out
 obtain ⟨x0,hx0⟩:∃x,l[0]? =some x:=⟨l[0]'(by have:=HL.out;omega),List.getElem?_eq_getElem _⟩
 obtain ⟨x1,hx1⟩:∃x,l[n]? =some x:=⟨l[n]'(by have:=HL.out;omega),List.getElem?_eq_getElem _⟩
 go_wp2_with fail
 have hsw:=swap_any w _ (n+1) l H.out.sl 0 n x0 x1 hx0 hx1
 rw [show ((0:Nat):Int)=0 from rfl] at hsw
 (with_reducible refine hsw.mono ?_)
 rintro e w1 ⟨rfl,hs1,hm1⟩
 have HF1:=Lib.hid (H.out.turned hm1 hs1)
 have HM1:=Lib.hid hm1
 have HP1:=Lib.hid (perm_swap hx0 hx1)
 have c1:=HF1.out.cell
 clear hs1 hm1 hml hms hsw
 go_wp2_with fail
 (with_reducible refine (down_any w1 p o _ (n+1) n _ c1 HF1.out.sl HF1.out.ne (by omega) (by omega)).mono ?_)
 rintro e w2 ⟨l2,b,rfl,hpe,hkp,hs2,hm2⟩
 have HF2:=Lib.hid (HF1.out.turned hm2 hs2)
 have HM2:=Lib.hid (HM1.out.trans hm2 (fun _ _ h=>h))
 have HP2:=Lib.hid (hpe.trans HP1.out)
 have hmp:=fun fuel=>meth_pop w2 p o fuel
 have HL2:=Lib.hid HF2.out.sl.out
 obtain ⟨y,hy⟩:∃x,l2[n]? =some x:=⟨l2[n]'(by have:=HL2.out;omega),List.getElem?_eq_getElem _⟩
 clear hpe hkp hs2 hm2
 go_wp2_with fail
 (with_reducible refine (npop_any w2 p o _ n l2 HF2.out.cell HF2.out.frozen HF2.out.sl HF2.out.ne y hy).mono ?_)
 rintro e w3 ⟨v3,rfl,hs3,hn3,hw3⟩
 have HF3:=Lib.hid (HF2.out.wrote hw3 hs3 (.inl hn3))
 have HM3:Hid (Mod (fun b=>b=p∨sblk (.slice A (n+1) cap)=some b) w w3):=(HM2.out.mono fun _ _ h=> .inr h).trans hw3.mod (fun b _ h=>by rcases h with h | h;exact .inl h;exact h.elim)
 have HN3:=Lib.hid hn3
 have HP3:Hid (List.Perm (y::l2.take n) l):=by
  refine List.Perm.trans ?_ HP2.out
  have hlt:n<l2.length:=by have:=HL2.out;omega
  have e:l2=l2.take n++ [y]:=by
   have h1:=List.take_append_drop n l2
   have h2:l2.drop n= [y]:=by
    rw [List.drop_eq_getElem_cons hlt,(List.getElem?_eq_some_iff.1 hy).2,List.drop_eq_nil_of_le (by have:=HL2.out;omega)]
   rw [h2] at h1;exact h1.symm
  exact ((List.perm_append_comm (l₁:=[y]) (l₂:=l2.take n))).trans (by rw [←e])
 clear hs3 hn3 hw3 hmp
 go_wp2_with fail
 go_ret
 exact ⟨v3,l2.take n,y,rfl,HP3.out,by have:=HF3.out;exact this,HN3.out,HM3.out⟩
end Go.Proofs.YthohnjgnpapnoaaGreatDoor
namespace Go.Proofs.YthohnjgnpapnoaaGreatDoor
open Go.RowKit Go.ChangeMaps Go.WideElems Go.WideMaps
structure KeyA where
 kind:Int
 a0:Int
 a1:Int
 a2:Int
 a3:Int
 deriving DecidableEq
structure EntD where
 key:KeyA
 level:Int
 value:Int
 mask:Nat
def entV (e:EntD):List Value:=[.int .i64 e.key.kind,.int .i64 e.key.a0,.int .i64 e.key.a1,.int .i64 e.key.a2,.int .i64 e.key.a3,.int .i64 e.level,.int .i64 e.value,.int .u64 (e.mask:Int)]
def entsV (l:List EntD):List Value:=l.flatMap entV
theorem entsV_at:∀(K:List EntD) (i:Nat) (k:EntD),K[i]? =some k→∀j,j<8→(entsV K)[i*8+j]? =(entV k)[j]?
 | [],i,k,h=>by simp at h
 | a::K,0,k,h=>fun j hj=>by
   simp at h;subst h
   rw [entsV,List.flatMap_cons,List.getElem?_append_left (by simp [entV];omega),Nat.zero_mul,Nat.zero_add]
 | a::K,i+1,k,h=>fun j hj=>by
   simp at h
   rw [entsV,List.flatMap_cons,List.getElem?_append_right (by simp [entV];omega),←entsV_at K i k h j hj]
   simp only [entV,List.length_cons,List.length_nil]
   congr 1;omega
abbrev EN:=173
abbrev AR:=98
structure ArS where
 room:Int
 ents:List EntD
 idx:KeyA→Option Int
 size:Nat
 free:List Int
 count:Nat→Int
 quota:Nat→Int
 added:Nat→List Int
 live:Int
structure ArR where
 lv:Value
 mb:Nat
 fv:Value
 av:Nat→Value
def arC (R:ArR) (S:ArS) (j:Nat):Value:=
 if j=0 then .int .i64 S.room else if j=1 then R.lv else if j=2 then .map (some R.mb) else if j=3 then R.fv else if j<68 then .int .i64 (S.count (j-4)) else if j<132 then .int .i64 (S.quota (j-68)) else if j<196 then R.av (j-132) else .int .i64 S.live
def arCells (R:ArR) (S:ArS):Array Value:=Array.ofFn (n:=197) fun i=>arC R S i
theorem arCells_at (R:ArR) (S:ArS) (j:Nat) (h:j<197):(arCells R S)[j]? =some (arC R S j):=by simp [arCells,h]
def upd {α:Type} (f:Nat→α) (t:Nat) (x:α):Nat→α:=fun k=>if k=t then x else f k
theorem arCells_set {R R':ArR} {S S':ArS} {o:Nat} {u:Value} (_ho:o<197) (h1:arC R' S' o=u) (h2:∀j,j<197→j≠o→arC R' S' j=arC R S j):(arCells R S).setIfInBounds o u=arCells R' S':=by
 apply Array.ext (by simp [arCells])
 intro j hj hj'
 have hj197:j<197:=by simpa [arCells] using hj'
 rw [Array.getElem_setIfInBounds (by simp [arCells];omega)]
 by_cases e:o=j
 ·subst e;rw [if_pos rfl];simp [arCells,h1]
 ·rw [if_neg e];simp [arCells,h2 j hj197 (Ne.symm e)]
set_option maxRecDepth 100000 in
theorem tenant_any (w:World) (t:Int):Calls Tryz.prog 45 #[.int .i64 t] w fun e w'=>e= .returned (.bool (decide (0≤t∧t<64)))∧w=w':=by
 go_enter Tryz.func45,Tryz.ntmps45
 by_cases h:0≤t∧t<64
 ·obtain ⟨h1,h2⟩:=h
  go_wp2_with fail
  go_ret
  exact ⟨by simp [h1,h2],rfl⟩
 ·by_cases h1:0≤t
  ·have h2:¬t<64:=fun h2=>h ⟨h1,h2⟩
   clear h
   go_wp2_with fail
   go_ret
   exact ⟨by simp;omega,rfl⟩
  ·clear h
   go_wp2_with fail
   go_ret
   exact ⟨by rw [decide_eq_false (show ¬(0≤t) by omega)];rfl,rfl⟩
end Go.Proofs.YthohnjgnpapnoaaGreatDoor
namespace Go.Proofs.YthohnjgnpapnoaaGreatDoor
open Go.RowKit Go.ChangeMaps Go.WideElems Go.WideMaps
theorem Tryz.laidOutK:laidOutB Tryz.prog=true:=by kernel_rfl
theorem Tryz.klKey:KeyLaw Tryz.prog 170:=deep_law_laid Tryz.laidOutK (m:=3) (by omega) (of_decide_eq_true (by kernel_rfl)) (by kernel_rfl) (by rw [Tryz.underlying170])
theorem Tryz.lawKey:Maps.Keyed Tryz.prog 170:=Maps.Keyed.of_law Tryz.klKey
theorem Tryz.zeroIntK (w:World):(zeroValue 3).run Tryz.prog w= .ok (.int .i64 0) w:=by kernel_rfl
theorem Tryz.keyTypeKey:Tryz.prog.keyType 170=true:=by kernel_rfl
theorem Tryz.typesSizeK:∃m,Tryz.prog.types.size=m+3:=⟨Tryz.prog.types.size-3,by have:3≤Tryz.prog.types.size:=of_decide_eq_true (by kernel_rfl);omega⟩
theorem Tryz.keyFields:∃f0 f1,Tryz.prog.underlying 170=some (.struct #[f0,f1])∧f0.offset=0∧f1.offset=1∧f0.type=3∧f1.type=22∧(f0.name != "_")=true∧(f1.name != "_")=true:=by
 exact ⟨_,_,Tryz.underlying170,rfl,rfl,rfl,rfl,by decide,by decide⟩
theorem Tryz.cellsK5:Tryz.prog.cellsOf 170=5:=by kernel_rfl
theorem Tryz.cellsK4:Tryz.prog.cellsOf 22=4:=by kernel_rfl
theorem Tryz.cellsK1:Tryz.prog.cellsOf 3=1:=by kernel_rfl
def KeyA.lits (k:KeyA):List Lit:=[.int .i64 k.kind,.int .i64 k.a0,.int .i64 k.a1,.int .i64 k.a2,.int .i64 k.a3]
def KeyA.val (k:KeyA):Value:= .agg #[.int .i64 k.kind,.int .i64 k.a0,.int .i64 k.a1,.int .i64 k.a2,.int .i64 k.a3]
def KeyA.lit (k:KeyA):Lit:= .string (keyBytes k.lits)
def i64r (x:Int):Prop:= -9223372036854775808≤x∧x≤9223372036854775807
def KeyA.ok (k:KeyA):Prop:=i64r k.kind∧i64r k.a0∧i64r k.a1∧i64r k.a2∧i64r k.a3
theorem i64r.wf {x:Int} (h:i64r x):(Lit.int .i64 x).wf=true:=by
 obtain ⟨h1,h2⟩:=h
 simp [Lit.wf,IntKind.min,IntKind.max,IntKind.signed,IntKind.bits];omega
set_option maxRecDepth 100000 in
theorem keyOf_key {k:KeyA} (h:k.ok):keyOf Tryz.prog 170 k.val=some k.lit:=by
 obtain ⟨w0,w1,w2,w3,w4⟩:=h
 have w0:=w0.wf
 have w1:=w1.wf
 have w2:=w2.wf
 have w3:=w3.wf
 have w4:=w4.wf
 obtain ⟨f0,f1,hu,o0,o1,t0,t1,n0,n1⟩:=Tryz.keyFields
 obtain ⟨m,hm⟩:=Tryz.typesSizeK
 unfold keyOf KeyA.val
 rw [hu]
 simp only
 rw [if_pos (by simp [Tryz.keyTypeKey,Value.formed,hu,Tryz.cellsK5]),hm]
 unfold Program.keyLits
 simp only [hu,Value.cells]
 rw [if_pos ⟨by rw [Tryz.cellsK5];rfl,by simp only [List.all_toArray,List.all_cons,List.all_nil,n0,n1];rfl⟩]
 simp only [List.mapM_cons,List.mapM_nil,o0,o1,t0,t1,Tryz.cellsK1,Tryz.cellsK4]
 simp [Program.keyLits,Tryz.underlying3,Tryz.underlying22,Tryz.cellsK1,w0,KeyA.lit,KeyA.lits]
 rw [if_pos Tryz.cellsK4.symm,show List.range 4= [0,1,2,3] from rfl]
 simp [w1,w2,w3,w4]
theorem KeyA.lit_inj {a b:KeyA} (ha:a.ok) (hb:b.ok) (h:a.lit=b.lit):a=b:=by
 have:=Tryz.lawKey.inj (keyOf_key ha) (h▸keyOf_key hb)
 unfold KeyA.val at this
 simp at this
 obtain ⟨h0,h1,h2,h3,h4⟩:=this
 cases a;cases b
 simp at h0 h1 h2 h3 h4
 subst h0 h1 h2 h3 h4
 rfl
theorem KeyA.lit_ne {a b:KeyA} (ha:a.ok) (hb:b.ok) (h:a≠b):a.lit≠b.lit:=fun e=>h (KeyA.lit_inj ha hb e)
theorem KeyA.isKey (k:KeyA):WideAt.IsKeyLit k.lit:=trivial
def MapK (w:World) (b c:Nat) (m:KeyA→Option Int):Prop:=
 ∃D:DataW Unit,w.ownsMap Tryz.prog 170 (plainElem Tryz.prog 3) b c D∧Maps.size D=c∧
  ∀k:KeyA,k.ok→Maps.has D k.lit=(m k).isSome∧∀v,m k=some v→D.atKey k.lit (.lit (.int .i64 0))= .lit (.int .i64 v)
theorem ownsMap_blockK {H:Type} {P:Program} {k:TypeId} {R:Value→Option (DataW H×List MemPlace)} {w w':World} {b n:Nat} {D:DataW H} (h:w.ownsMap P k R b n D) (e:w'.heap[b]? =w.heap[b]?):w'.ownsMap P k R b n D:=by
 obtain ⟨es,clock,hb,F,hs,hD⟩:=h
 exact ⟨es,clock,e.trans hb,F,hs,hD⟩
theorem ownsMap_tight {H:Type} {P:Program} {k:TypeId} {R:Value→Option (DataW H×List MemPlace)} {w:World} {b n:Nat} {D:DataW H} (h:w.ownsMap P k R b n D):w.ownsMap P k R b (Maps.size D) D:=by
 obtain ⟨es,clock,hb,F,hs,hD⟩:=h
 refine ⟨es,clock,hb,F,?_,hD⟩
 rw [hD]
 simp [Maps.size,length_sorted]
section
variable {w w' : World} {b c : Nat} {m : KeyA → Option Int}
theorem MapK.of_block (h:MapK w b c m) (e:w'.heap[b]? =w.heap[b]?):MapK w' b c m:=by obtain ⟨D,h1,h2⟩:=h;exact ⟨D,ownsMap_blockK h1 e,h2⟩
theorem MapK.lt (h:MapK w b c m):b<w.heap.size:=by obtain ⟨D,h1,_⟩:=h;exact h1.lt
theorem MapK.made (w:World):MapK (w.alloc (.map #[] 0)) w.heap.size 0 (fun _=>none):=⟨_,World.ownsMap_made w _ _ _,rfl,fun _ _=>⟨rfl,fun _ h=>by cases h⟩⟩
theorem turned_modK {w w':World} {b:Nat} (h:w.mapTurned w' b):Mod (fun k=>k=b) w w':=by
 have hg:=h.grown
 exact ⟨hg.os,hg.tape,hg.output,hg.size,fun k hk hn=>hg.block k hk (by simpa using hn)⟩
theorem MapK.ne (h:MapK w b c m) {p t:Nat} {cs:Array Value} (hp:Blk w p t cs):b≠p:=by
 rintro rfl
 obtain ⟨D,⟨es,clock,hb,_⟩,_⟩:=h
 unfold Blk at hp
 rw [hb] at hp
 cases hp
set_option maxRecDepth 100000 in
theorem MapK.look (h:MapK w b c m) {k:KeyA} (hk:k.ok):
 ∃v,(Instr.lookup 93 (.map (some b)) k.val true).run Tryz.prog w= .ok (.tuple #[.int .i64 v,.bool (m k).isSome]) w∧∀x,m k=some x→v=x:=by
 obtain ⟨D,hown,_,h1⟩:=h
 obtain ⟨v,ps,hrun,hv⟩:=hown.look_ok Tryz.lawKey Tryz.underlying93 (Tryz.zeroIntK w) (plainElem_int Tryz.underlying3 (by decide)) (keyOf_key hk)
 obtain ⟨x,rfl,hx,_⟩:=plainElem_int_inv Tryz.underlying3 hv
 refine ⟨x,by rw [hrun,(h1 k hk).1],fun y hy=>?_⟩
 have h2:=(h1 k hk).2 y hy
 simp only [Prod.mk.injEq] at hx
 rw [h2] at hx
 have:=hx.1
 injection this with this
 injection this with _ this
 exact this.symm
set_option maxRecDepth 100000 in
theorem MapK.put (h:MapK w b c m) {k:KeyA} (hk:k.ok) (hn:m k=none) (hc:c<maxLen) {v:Int} (hv:i64r v):
 ∃w',(Instr.mapUpdate 93 (.map (some b)) k.val (.int .i64 v)).run Tryz.prog w= .ok () w'∧MapK w' b (c+1) (fun k'=>if k'=k then some v else m k')∧Mod (fun q=>q=b) w w':=by
 obtain ⟨D,hown,hs,h1⟩:=h
 obtain ⟨w',u1,u2,u3⟩:=hown.store Tryz.lawKey Tryz.underlying93 hc (keyOf_key hk) (plainElem_int Tryz.underlying3 hv.wf)
 refine ⟨w',u1,⟨_,u2,?_,fun e he=>?_⟩,turned_modK u3⟩
 ·rw [Maps.size_put (hown.tidy Tryz.lawKey),hs,(h1 k hk).1,hn];rfl
 ·by_cases hce:e=k
  ·subst hce
   simp only [if_pos]
   refine ⟨Maps.has_put_same hown.isMap e.isKey _,fun x hx=>?_⟩
   rw [Maps.atKey_put_same hown.isMap e.isKey]
   injection hx with hx;rw [hx]
  ·simp only [if_neg hce]
   obtain ⟨g1,g2⟩:=h1 e he
   refine ⟨(Maps.has_put_other (KeyA.lit_ne he hk hce) _).trans g1,fun x hx=>?_⟩
   rw [Maps.atKey_put_other (KeyA.lit_ne he hk hce)]
   exact g2 x hx
theorem MapK.drop (h:MapK w b c m) {k:KeyA} (hk:k.ok) {v:Int} (hn:m k=some v) (ty:TypeId):
 ∃w',(Builtin.delete_ #[93,170] ty #[.map (some b),k.val]).run Tryz.prog w= .ok (.tuple #[]) w'∧MapK w' b (c-1) (fun k'=>if k'=k then none else m k')∧Mod (fun q=>q=b) w w':=by
 obtain ⟨D,hown,hs,h1⟩:=h
 obtain ⟨w',u1,u2,u3⟩:=hown.drop Tryz.lawKey Tryz.underlying93 (keyOf_key hk) ty
 have hsz:=Maps.size_del (k:=k.lit) (hown.tidy Tryz.lawKey)
 rw [(h1 k hk).1,hn,hs] at hsz
 have hsz':Maps.size (D.del k.lit)=c-1:=by simp at hsz;omega
 refine ⟨w',u1,⟨_,?_,hsz',fun e he=>?_⟩,turned_modK u3⟩
 ·have:=ownsMap_tight u2
  rw [hsz'] at this
  exact this
 ·by_cases hce:e=k
  ·subst hce
   simp only [if_pos]
   exact ⟨Maps.has_del_same ..,fun x hx=>by cases hx⟩
  ·simp only [if_neg hce]
   obtain ⟨g1,g2⟩:=h1 e he
   refine ⟨(Maps.has_del_other (KeyA.lit_ne he hk hce)).trans g1,fun x hx=>?_⟩
   rw [Maps.atKey_del_other (KeyA.lit_ne he hk hce)]
   exact g2 x hx
end
end Go.Proofs.YthohnjgnpapnoaaGreatDoor
namespace Go.Proofs.YthohnjgnpapnoaaGreatDoor
open Go.RowKit
theorem bit_test (m t:Nat) (hm:m<18446744073709551616):(bits .and .u64 ((m:Int)/2^t) 1==1)=m.testBit t:=by
 have e:((m:Int)/2^t)=((m/2^t:Nat):Int):=by simp
 have hl:m/2^t<18446744073709551616:=Nat.lt_of_le_of_lt (Nat.div_le_self _ _) hm
 rw [e,show (1:Int)=((1:Nat):Int) from rfl,u64_and_nat _ 1 hl (by decide),nat_mask1,Nat.testBit_eq_decide_div_mod_eq]
 by_cases h:m/2^t%2=1
 ·simp [h]
 ·have h0:m/2^t%2=0:=by omega
  rw [h0];decide
def setB (m t:Nat):Nat:=m ||| 2^t
def clrB (m t:Nat):Nat:=m&&& (18446744073709551615-2^t)
theorem pow_lt64 {t:Nat} (h:t<64):2^t<18446744073709551616:=by
 have:=Nat.pow_lt_pow_right (a:=2) (by decide) h
 rw [show (2:Nat)^64=18446744073709551616 by decide] at this
 exact this
theorem setB_lt {m t:Nat} (hm:m<18446744073709551616) (ht:t<64):setB m t<18446744073709551616:=by
 have:=Nat.or_lt_two_pow (n:=64) (x:=m) (y:=2^t) (by rw [show (2:Nat)^64=18446744073709551616 by decide];exact hm) (by rw [show (2:Nat)^64=18446744073709551616 by decide];exact pow_lt64 ht)
 rw [show (2:Nat)^64=18446744073709551616 by decide] at this
 exact this
theorem clrB_lt {m t:Nat} (hm:m<18446744073709551616):clrB m t<18446744073709551616:=Nat.lt_of_le_of_lt Nat.and_le_left hm
theorem setB_bit {m t i:Nat}:(setB m t).testBit i=(m.testBit i || decide (t=i)):=by
 unfold setB;rw [Nat.testBit_or,Nat.testBit_two_pow]
theorem clrB_bit {m t i:Nat} (hm:m<18446744073709551616) (ht:t<64):(clrB m t).testBit i=(m.testBit i&& !decide (t=i)):=by
 unfold clrB
 rw [Nat.testBit_and,show 18446744073709551615-2^t=2^64-(2^t+1) by rw [show (2:Nat)^64=18446744073709551616 by decide];omega,Nat.testBit_two_pow_sub_succ (by rw [show (2:Nat)^64=18446744073709551616 by decide];exact pow_lt64 ht),Nat.testBit_two_pow]
 by_cases hi:i<64
 ·simp [hi]
 ·have:m.testBit i=false:=Nat.testBit_lt_two_pow (Nat.lt_of_lt_of_le hm (by
   rw [show 18446744073709551616=2^64 by decide];exact Nat.pow_le_pow_right (by decide) (by omega)))
  simp [this]
structure ArM (w:World) (p:Nat) (R:ArR) (S:ArS):Prop where
 blk:Blk w p AR (arCells R S)
 list:Sl w EN 8 R.lv S.ents.length (entsV S.ents)
 idx:MapK w R.mb S.size S.idx
 free:Sl w IT 1 R.fv S.free.length (intsV S.free)
 added:∀t,t<64→Sl w IT 1 (R.av t) (S.added t).length (intsV (S.added t))
 sep1:∀t,t<64→∀b,sblk R.fv=some b→sblk (R.av t)≠some b
 sep2:∀t t',t<64→t'<64→t≠t'→∀b,sblk (R.av t)=some b→sblk (R.av t')≠some b
 masks:∀e∈S.ents,e.mask<18446744073709551616
def Own (p:Nat) (R:ArR) (b:Nat):Prop:=b=p∨b=R.mb∨sblk R.lv=some b∨sblk R.fv=some b∨∃t,t<64∧sblk (R.av t)=some b
structure Step (p:Nat) (R R':ArR) (w w':World):Prop where
 mod:Mod (Own p R) w w'
 own:∀b,Own p R' b→Own p R b∨w.heap.size≤b
theorem Step.refl (p:Nat) (R:ArR) (w:World):Step p R R w w:=⟨Mod.refl _ _,fun _ h=> .inl h⟩
theorem Step.trans {p:Nat} {R R1 R2:ArR} {w w1 w2:World} (h:Step p R R1 w w1) (k:Step p R1 R2 w1 w2):Step p R R2 w w2:=
 ⟨h.mod.trans k.mod fun b hb ho=>by
  rcases h.own b ho with h1 | h1
  ·exact h1
  ·omega,fun b hb=>by
  rcases k.own b hb with h1 | h1
  ·exact h.own b h1
  ·exact .inr (Nat.le_trans h.mod.size h1)⟩
section
variable {w w' : World} {p : Nat} {R : ArR} {S : ArS}
theorem ArM.c (h:ArM w p R S) (j:Nat) (hj:j<197):w.cell? ⟨p,j,none⟩=some (arC R S j):=h.blk.cellS (arCells_at R S j hj)
theorem ArM.f (h:ArM w p R S) (j:Nat):w.frozen? ⟨p,j,none⟩=false:=h.blk.frozen j
theorem ArM.cRoom (h:ArM w p R S):w.cell? ⟨p,0,none⟩=some (.int .i64 S.room):=(h.c 0 (by decide)).trans rfl
theorem ArM.cList (h:ArM w p R S):w.cell? ⟨p,1,none⟩=some R.lv:=(h.c 1 (by decide)).trans rfl
theorem ArM.cIdx (h:ArM w p R S):w.cell? ⟨p,2,none⟩=some (.map (some R.mb)):=(h.c 2 (by decide)).trans rfl
theorem ArM.cFree (h:ArM w p R S):w.cell? ⟨p,3,none⟩=some R.fv:=(h.c 3 (by decide)).trans rfl
theorem ArM.cCount (h:ArM w p R S) {t:Nat} (ht:t<64):w.cell? ⟨p,4+t,none⟩=some (.int .i64 (S.count t)):=by
 rw [h.c (4+t) (by omega)];unfold arC
 rw [if_neg (by omega),if_neg (by omega),if_neg (by omega),if_neg (by omega),if_pos (by omega),Nat.add_sub_cancel_left]
theorem ArM.cQuota (h:ArM w p R S) {t:Nat} (ht:t<64):w.cell? ⟨p,68+t,none⟩=some (.int .i64 (S.quota t)):=by
 rw [h.c (68+t) (by omega)];unfold arC
 rw [if_neg (by omega),if_neg (by omega),if_neg (by omega),if_neg (by omega),if_neg (by omega),if_pos (by omega),Nat.add_sub_cancel_left]
theorem ArM.cAdded (h:ArM w p R S) {t:Nat} (ht:t<64):w.cell? ⟨p,132+t,none⟩=some (R.av t):=by
 rw [h.c (132+t) (by omega)];unfold arC
 rw [if_neg (by omega),if_neg (by omega),if_neg (by omega),if_neg (by omega),if_neg (by omega),if_neg (by omega),if_pos (by omega),Nat.add_sub_cancel_left]
theorem ArM.cLive (h:ArM w p R S):w.cell? ⟨p,196,none⟩=some (.int .i64 S.live):=(h.c 196 (by decide)).trans rfl
theorem ArM.keep {T:Nat→Prop} (h:ArM w p R S) (hm:Mod T w w') (hT:∀b,Own p R b→¬T b):ArM w' p R S:=
 ⟨h.blk.mod hm (hT _ (.inl rfl)),h.list.mod hm fun _b hb=>hT _ (.inr (.inr (.inl hb))),h.idx.of_block (hm.block _ h.idx.lt (hT _ (.inr (.inl rfl)))),h.free.mod hm fun _b hb=>hT _ (.inr (.inr (.inr (.inl hb)))),
  fun t ht=>(h.added t ht).mod hm fun _b hb=>hT _ (.inr (.inr (.inr (.inr ⟨t,ht,hb⟩)))),h.sep1,h.sep2,h.masks⟩
theorem ArM.drew (h:ArM w p R S):ArM w.drew p R S:=⟨h.blk,h.list,h.idx.of_block rfl,h.free,h.added,h.sep1,h.sep2,h.masks⟩
theorem ArM.own_lt (h:ArM w p R S) {b:Nat} (hb:Own p R b):b<w.heap.size:=by
 rcases hb with rfl | rfl | hb | hb | ⟨t,ht,hb⟩
 ·exact h.blk.lt
 ·exact h.idx.lt
 ·exact (h.list.lt hb).1
 ·exact (h.free.lt hb).1
 ·exact ((h.added t ht).lt hb).1
theorem ArM.ents (h:ArM w p R S) (hn:0<S.ents.length):∃b off cap,R.lv= .slice (some ⟨b,off,none⟩) S.ents.length cap∧S.ents.length≤cap∧cap≤maxLen∧(∀(id:Nat) (e:EntD) (j:Nat) u,S.ents[id]? =some e→(entV e)[j]? =some u→w.cell? ⟨b,off+id*8+j,none⟩=some u)∧∀j,w.frozen? ⟨b,j,none⟩=false:=by
 obtain ⟨b,off,cap,hlv,hc1,hc2,hlt2,hc,hf',_⟩:=h.list.at hn
 refine ⟨b,off,cap,hlv,hc1,hc2,fun id e j u he hu=>?_,hf'⟩
 have hj:j<8:=by have:=(List.getElem?_eq_some_iff.1 hu).1;simpa [entV] using this
 rw [Nat.add_assoc]
 exact hc _ _ ((entsV_at _ id e he j hj).trans hu)
theorem ArM.list_ne (h:ArM w p R S) {b:Nat} (hb:sblk R.lv=some b):b≠p∧b≠R.mb∧sblk R.fv≠some b∧∀t,t<64→sblk (R.av t)≠some b:=by
 obtain ⟨_,cs,hk⟩:=h.list.lt hb
 refine ⟨fun e=>?_,fun e=>?_,fun e=>?_,fun t ht e=>?_⟩
 ·subst e;exact absurd (hk.inj h.blk).1 (by decide)
 ·subst e;exact h.idx.ne hk rfl
 ·obtain ⟨_,cs',hk'⟩:=h.free.lt e;exact absurd (hk.inj hk').1 (by decide)
 ·obtain ⟨_,cs',hk'⟩:=(h.added t ht).lt e;exact absurd (hk.inj hk').1 (by decide)
theorem ArM.p_ne (h:ArM w p R S):p≠R.mb∧sblk R.lv≠some p∧sblk R.fv≠some p∧∀t,t<64→sblk (R.av t)≠some p:=by
 refine ⟨fun e=>h.idx.ne h.blk e.symm,fun e=>(h.list_ne e).1 rfl,fun e=>?_,fun t ht e=>?_⟩
 ·obtain ⟨_,cs',hk'⟩:=h.free.lt e;exact absurd (hk'.inj h.blk).1 (by decide)
 ·obtain ⟨_,cs',hk'⟩:=(h.added t ht).lt e;exact absurd (hk'.inj h.blk).1 (by decide)
theorem ArM.mb_ne (h:ArM w p R S):sblk R.lv≠some R.mb∧sblk R.fv≠some R.mb∧∀t,t<64→sblk (R.av t)≠some R.mb:=by
 refine ⟨fun e=>(h.list_ne e).2.1 rfl,fun e=>?_,fun t ht e=>?_⟩
 ·obtain ⟨_,cs',hk'⟩:=h.free.lt e;exact h.idx.ne hk' rfl
 ·obtain ⟨_,cs',hk'⟩:=(h.added t ht).lt e;exact h.idx.ne hk' rfl
theorem ArM.put (h:ArM w p R S) {j:Nat} {u:Value} {S':ArS} (he:(arCells R S).setIfInBounds j u=arCells R S') (h1:S'.ents=S.ents) (h2:S'.idx=S.idx) (h3:S'.size=S.size) (h4:S'.free=S.free) (h5:S'.added=S.added):
 ArM (w.setCell ⟨p,j,none⟩ u) p R S':=by
 obtain ⟨n1,n2,n3,n4⟩:=h.p_ne
 refine ⟨by rw [←he];exact h.blk.set j u,by rw [h1];exact h.list.far (p:=⟨p,j,none⟩) n2 u,by rw [h2,h3];exact h.idx.of_block (Below.heap_setCell w ⟨p,j,none⟩ u R.mb n1.symm),by rw [h4];exact h.free.far (p:=⟨p,j,none⟩) n3 u,fun t ht=>by rw [h5];exact (h.added t ht).far (p:=⟨p,j,none⟩) (n4 t ht) u,h.sep1,h.sep2,by rw [h1];exact h.masks⟩
end
end Go.Proofs.YthohnjgnpapnoaaGreatDoor
namespace Go.Proofs.YthohnjgnpapnoaaGreatDoor
open Go.RowKit
def entAt (S:ArS) (id:Int):Option EntD:=if 2≤id then S.ents[id.toNat]? else none
def ownsB (S:ArS) (t:Nat) (id kind:Int):Bool:=(kind==0&&(id==0 || id==1)) || (match entAt S id with | some e=>e.key.kind==kind&&e.mask.testBit t | none=>false)
set_option maxRecDepth 100000 in
set_option maxHeartbeats 3200000 in
theorem owns_any (w:World) (p:Nat) (R:ArR) (S:ArS) (h:ArM w p R S) (hlen:2≤S.ents.length) (t:Nat) (ht:t<64) (id kind:Int):
 Calls Tryz.prog 100 #[.pointer (some ⟨p,0,none⟩),.int .i64 t,.int .i64 id,.int .i64 kind] w fun e w'=>e= .returned (.bool (ownsB S t id kind))∧w=w':=by
 obtain ⟨b,off,cap,hlv,hc1,hc2,hc,_⟩:=h.ents (by omega)
 have c0:=h.cList
 rw [hlv] at c0
 have hmk:=h.masks
 have HMK:=Lib.hid hmk
 have HC:=Lib.hid hc
 have k4:(t:Int)<64:=by omega
 clear h hc hmk hlv
 generalize hL:S.ents.length=n at*
 have HL:=Lib.hid hL
 clear hL
 go_enter Tryz.func100,Tryz.ntmps100
 by_cases h0:kind=0∧(id=0∨id=1)
 ·obtain ⟨rfl,hid⟩:=h0
  have HR:Hid (ownsB S t id 0=true):=by show ownsB S t id 0=true;rcases hid with rfl | rfl<;>simp [ownsB]
  rcases hid with rfl | rfl
  ·go_wp2_with fail
   go_ret
   exact ⟨by rw [HR.out];rfl,rfl⟩
  ·go_wp2_with fail
   go_ret
   exact ⟨by rw [HR.out];rfl,rfl⟩
 ·have hR:ownsB S t id kind=(match entAt S id with | some e=>e.key.kind==kind&&e.mask.testBit t | none=>false):=by
   unfold ownsB
   have:(kind==0&&(id==0 || id==1))=false:=by
    rw [Bool.eq_false_iff];intro e;simp at e;exact h0 e
   rw [this,Bool.false_or]
  have HR:=Lib.hid hR
  have hk:(kind=0∧¬id=0∧¬id=1)∨¬kind=0:=by omega
  clear h0 hR
  by_cases h2:2≤id
  ·by_cases h3:id<n
   ·obtain ⟨i,rfl⟩:∃i:Nat,id=i:=⟨id.toNat,by omega⟩
    obtain ⟨e,he⟩:∃e,S.ents[i]? =some e:=⟨S.ents[i]'(by have:=HL.out;omega),List.getElem?_eq_getElem _⟩
    have HA:Hid (ownsB S t i kind=(e.key.kind==kind&&e.mask.testBit t)):=by
     show _=_
     rw [HR.out];unfold entAt;rw [if_pos h2,Int.toNat_natCast,he]
    have c1:w.cell? ⟨b,off+i*8,none⟩=some (.int .i64 e.key.kind):=HC.out i e 0 _ he rfl
    have c2:w.cell? ⟨b,off+i*8+7,none⟩=some (.int .u64 (e.mask:Int)):=HC.out i e 7 _ he rfl
    have hbit:=bit_test e.mask t (HMK.out e (List.mem_of_getElem? he))
    clear he
    rcases hk with ⟨rfl,k0,k1⟩ | k0
    ·have e0:=beq_eq_false_iff_ne.2 k0
     have e1:=beq_eq_false_iff_ne.2 k1
     by_cases hke:e.key.kind=0
     ·go_wp2_with fail
      go_ret
      exact ⟨by rw [HA.out,hke];simp,rfl⟩
     ·go_wp2_with fail
      go_ret
      exact ⟨by rw [HA.out];simp [hke],rfl⟩
    ·by_cases hke:e.key.kind=kind
     ·go_wp2_with fail
      go_ret
      exact ⟨by rw [HA.out,hke];simp,rfl⟩
     ·go_wp2_with fail
      go_ret
      exact ⟨by rw [HA.out];simp [hke],rfl⟩
   ·have HA:Hid (ownsB S t id kind=false):=by
     show _=_
     rw [HR.out];unfold entAt;rw [if_pos h2,List.getElem?_eq_none (by have:=HL.out;omega)]
    rcases hk with ⟨rfl,k0,k1⟩ | k0
    ·have e0:=beq_eq_false_iff_ne.2 k0
     have e1:=beq_eq_false_iff_ne.2 k1
     go_wp2_with fail
     go_ret
     exact ⟨by rw [HA.out];rfl,rfl⟩
    ·go_wp2_with fail
     go_ret
     exact ⟨by rw [HA.out];rfl,rfl⟩
  ·have HA:Hid (ownsB S t id kind=false):=by
    show _=_
    rw [HR.out];unfold entAt;rw [if_neg h2]
   rcases hk with ⟨rfl,k0,k1⟩ | k0
   ·have e0:=beq_eq_false_iff_ne.2 k0
    have e1:=beq_eq_false_iff_ne.2 k1
    go_wp2_with fail
    go_ret
    exact ⟨by rw [HA.out];rfl,rfl⟩
   ·go_wp2_with fail
    go_ret
    exact ⟨by rw [HA.out];rfl,rfl⟩
set_option maxRecDepth 100000 in
theorem count_any (w:World) (p:Nat) (R:ArR) (S:ArS) (h:ArM w p R S) (t:Nat) (ht:t<64):
 Calls Tryz.prog 24 #[.pointer (some ⟨p,0,none⟩),.int .i64 t] w fun e w'=>e= .returned (.int .i64 (S.count t))∧w=w':=by
 have c0:=h.cCount ht
 have k4:(t:Int)<64:=by omega
 clear h
 go_enter Tryz.func24,Tryz.ntmps24
 go_wp2_with fail
 (with_reducible refine (tenant_any w t).mono ?_)
 rintro e wq ⟨rfl,rfl⟩
 rw [decide_eq_true (show 0≤(t:Int)∧(t:Int)<64 by omega)]
 go_wp2_with fail
 go_ret
 exact ⟨rfl,rfl⟩
end Go.Proofs.YthohnjgnpapnoaaGreatDoor
