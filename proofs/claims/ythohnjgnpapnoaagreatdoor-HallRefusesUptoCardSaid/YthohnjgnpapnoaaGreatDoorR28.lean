/- hall: add. -/
import Derived.Test.YthohnjgnpapnoaaGreatDoorR21
import Derived.Test.YthohnjgnpapnoaaGreatDoorR23
import Derived.Deep.RegionLaw
set_option linter.unusedVariables false
set_option linter.unusedSimpArgs false
namespace Go.Proofs.YthohnjgnpapnoaaGreatDoor
open Go.RowKit
def OfP (w:World) (p:Nat) (R:ArR) (S:ArS) (A:Nat→Abs) (t:Nat) (C:List Thing→Prop) (P:Int→Int→Bool) (k:Nat) (b l:Int) (e:Ending) (w':World):Prop:=
 ∃(r:Int) (nm:ByteArray) (S':ArS) (A':Nat→Abs) (R':ArR) (bad:Int),e= .returned (.tuple #[.agg #[.string nm,.int .i64 (if bad=0 then r else 0),.int .i64 b,.int .i64 l],.int .i64 bad])∧Grew t C S A 0 S' A' bad∧(bad=0→Has S' A' t r (rootT P k))∧Ar w' p R' S' A'∧StepH NoX p R R' w w'
theorem named_plain {s:List UInt8} (h:namedW s=true):keyedW s=false:=by
 cases hk:keyedW s with
 | false=>rfl
 | true=>
   unfold namedW at h
   unfold keyedW at hk
   simp only [Bool.and_eq_true,decide_eq_true_eq] at h hk
   obtain ⟨⟨h1,_⟩,_⟩:=h
   obtain ⟨⟨_,h2⟩,_⟩:=hk
   cases s with
   | nil=>cases h2
   | cons c s=>
     simp only [List.head?_cons,Option.some.injEq] at h2
     subst h2
     simp [lowC] at h1
theorem name_new {Ws:List WD} {K:List KeyD} {name:List UInt8} (hn:namedW name=true) (h:¬(hfind Ws K name 0).2=0):∀y∈Ws,y.name≠name:=fun y hy e=>h (by
 unfold hfind
 rw [named_plain hn]
 cases hi:idxF Ws name with
 | some i=>simp [hi]
 | none=>
   unfold idxF at hi
   rw [List.findIdx?_eq_none_iff] at hi
   have:=hi y hy
   simp [e] at this)
theorem wdV_one {x:WD}:∀u∈wdV x,u.oneCell'=true:=fun u hu=>by
 simp [wdV] at hu
 rcases hu with rfl | rfl | rfl | rfl<;>rfl
theorem Tryz.infoWorld:(Tryz.prog.info? 137).map (fun i=>(i.zero,i.size,i.bytes))=some (some (.agg #[.string ⟨#[]⟩,.int .i64 0,.int .i64 0,.int .i64 0]),4,40):=by kernel_rfl
instance decGoodR (b l:Int):Decidable (goodR b l):=by unfold goodR;infer_instance
def addX (H:HS) (name:List UInt8) (b l:Int):Int:=
 if namedW name=false then 2 else if ¬goodR b l then 4 else if (hfind H.Ws H.K name 0).2=0 then 7 else if H.Ws.length=16 then 5 else 0
def AddF (H:HS) (name:List UInt8) (b l:Int) (t:Nat) (C:List Thing→Prop) (x:Int) (H':HS):Prop:=
 (addX H name b l=x∧H'=H)∨(addX H name b l=0∧Grew t C H.S H.A 0 H'.S H'.A x)
def AddG (H:HS) (name:List UInt8) (P:Int→Int→Bool) (k:Nat) (b l:Int) (t:Nat) (C:List Thing→Prop) (a:An) (H':HS):Prop:=
 addX H name b l=0∧a=An.zero 0∧Grew t C H.S H.A 0 H'.S H'.A 0∧∃r,Has H'.S H'.A t r (rootT P k)∧H'.Ws=H.Ws++ [⟨name,r,k,P,b,l⟩]∧H'.ser=H.ser∧H'.K=H.K
set_option maxRecDepth 100000 in
set_option maxHeartbeats 3200000 in
theorem add_any (w:World) (h p:Nat) (R:ArR) (H:HS) (t:Nat) (d:Int) (wv kv:Value) (HH:Hl w h p R H.S H.A t d H.Ws wv H.ser H.K kv) (name:List UInt8) (hn:name.length≤4294967296) (b l:Int) (hbl: -9223372036854775808≤b∧b≤9223372036854775807) (P:Int→Int→Bool) (k:Nat) (hk1:1≤k) (hk:k≤40) (hs:Supp P k) (hoP:okP P) (C:List Thing→Prop)
 (fid:FuncId) (caps:Array Value) (hent:∀w,(callFunc fid caps).run Tryz.prog w= .ok (.enter fid caps) w)
 (hof:∀w1,Below w.heap.size w w1→Calls Tryz.prog fid caps w1 (OfP w1 p R H.S H.A t C P k b l)):
 Calls Tryz.prog 69 #[.pointer (some ⟨h,0,none⟩),.string (str name),.func (.func fid) #[] caps,.agg #[.int .i64 b,.int .i64 l]] w (TryP w h p R H t d wv kv (AddF H name b l t C) (AddG H name P k b l t C)):=by
 obtain ⟨wA,wcap,hwv,hwc1,hwc2⟩:=HH.ws.form
 subst hwv
 have HL:=Lib.hid HH
 have hl16:(H.Ws.length:Int)≤16:=by have:=HH.len;omega
 have HWC:=Lib.hid (And.intro hwc1 hwc2)
 have HNM:=Lib.hid (fun w=>named_any w name hn)
 have HFN:=Lib.hid (fun w1 (h1:HlR w1 h p t d H.Ws (.slice wA H.Ws.length wcap) H.ser H.K kv)=>hfind_any w1 h p t d H.Ws (.slice wA H.Ws.length wcap) H.ser H.K kv h1 name hn 0)
 clear HH hwc1 hwc2
 go_enter Tryz.func69,Tryz.ntmps69
 go_wp2_with fail
 generalize hw0:World.alloc (World.alloc w _) _=w0
 obtain ⟨s1,q0,n0,s0⟩:=slotsG w #[.int .i64 b,.int .i64 l] 54 (w0:=w0) hw0
 have HSL:=Lib.hid s1
 have HQ0:=Lib.hid q0
 have HN0:=Lib.hid n0
 have HSQ:=Lib.hid s0
 have HL0:=Lib.hid (HL.out.below s1.bel)
 have HOF:=Lib.hid (fun w1 (h1:Below w0.heap.size w0 w1)=>hof w1 (s1.bel.trans (h1.mono s1.bel.size)))
 have HENT:=hent
 have HKS:=Lib.hid (And.intro hk1 (And.intro hk (And.intro hs hoP)))
 have HS0:Hid (HStep h p R (.slice wA H.Ws.length wcap) kv R (.slice wA H.Ws.length wcap) kv w0 w0):=HStep.refl _ _ _ _ _ _
 clear hw0 s1 q0 n0 s0 hof hent hk1 hk hs hoP
 (with_reducible refine (HNM.out _).mono ?_)
 rintro e wq ⟨rfl,rfl⟩
 cases hnm:namedW name
 ·have HF:Hid (AddF H name b l t C 2 H):= .inl ⟨by unfold addX;rw [if_pos hnm],rfl⟩
  clear hnm HNM HFN HOF HENT
  have zb:=HN0.out
  have z0:w0.cell? ⟨w.heap.size+1,0,none⟩=some (.int .i64 0):=zb.cellS rfl
  have z1:w0.cell? ⟨w.heap.size+1,1,none⟩=some (.int .i64 0):=zb.cellS rfl
  have z2:w0.cell? ⟨w.heap.size+1,2,none⟩=some (.int .i64 0):=zb.cellS rfl
  have z3:w0.cell? ⟨w.heap.size+1,3,none⟩=some (.int .i64 0):=zb.cellS rfl
  have z4:w0.cell? ⟨w.heap.size+1,4,none⟩=some (.int .i64 0):=zb.cellS rfl
  have z5:w0.cell? ⟨w.heap.size+1,5,none⟩=some (.int .i64 0):=zb.cellS rfl
  have z6:w0.cell? ⟨w.heap.size+1,6,none⟩=some (.int .i64 0):=zb.cellS rfl
  have z7:w0.cell? ⟨w.heap.size+1,7,none⟩=some (.int .i64 0):=zb.cellS rfl
  have z8:w0.cell? ⟨w.heap.size+1,8,none⟩=some (.string ⟨#[]⟩):=zb.cellS rfl
  have z9:w0.cell? ⟨w.heap.size+1,9,none⟩=some (.slice none 0 0):=zb.cellS rfl
  have zf0:=zb.frozen 0
  have zf1:=zb.frozen 1
  have zf2:=zb.frozen 2
  have zf3:=zb.frozen 3
  have zf4:=zb.frozen 4
  have zf5:=zb.frozen 5
  have zf6:=zb.frozen 6
  have zf7:=zb.frozen 7
  have zf8:=zb.frozen 8
  have zf9:=zb.frozen 9
  go_wp2_with fail
  obtain ⟨hbk,hmd⟩:=an_refused HN0.out 0
  generalize hWW:World.setCell _ _ _=WW at hbk hmd ⊢
  have k0:WW.cell? ⟨w.heap.size+1,0,none⟩=some (.int .i64 0):=hbk.cellS rfl
  have k1:WW.cell? ⟨w.heap.size+1,1,none⟩=some (.int .i64 0):=hbk.cellS rfl
  have k2:WW.cell? ⟨w.heap.size+1,2,none⟩=some (.int .i64 0):=hbk.cellS rfl
  have k3:WW.cell? ⟨w.heap.size+1,3,none⟩=some (.int .i64 0):=hbk.cellS rfl
  have k4:WW.cell? ⟨w.heap.size+1,4,none⟩=some (.int .i64 0):=hbk.cellS rfl
  have k5:WW.cell? ⟨w.heap.size+1,5,none⟩=some (.int .i64 0):=hbk.cellS rfl
  have k6:WW.cell? ⟨w.heap.size+1,6,none⟩=some (.int .i64 0):=hbk.cellS rfl
  have k7:WW.cell? ⟨w.heap.size+1,7,none⟩=some (.int .i64 0):=hbk.cellS rfl
  have k8:WW.cell? ⟨w.heap.size+1,8,none⟩=some (.string ⟨#[]⟩):=hbk.cellS rfl
  have k9:WW.cell? ⟨w.heap.size+1,9,none⟩=some (.slice none 0 0):=hbk.cellS rfl
  clear hWW hbk
  refine bodyPost_ret (v:= .tuple #[ansV (An.zero 0) (.slice none 0 0),.int .i64 2]) (by simp [results,Tryz.results69,go_sem,ansV,An.zero,k0,k1,k2,k3,k4,k5,k6,k7,k8,k9,str]) rfl ?_
  exact try_no HSL.out HL.out HS0.out HL0.out (St.refl HL.out.ar.rel t) ⟨rfl,rfl,rfl⟩ (by decide) HF.out hmd
 ·have HNM1:=Lib.hid hnm
  clear hnm HNM
  by_cases hg:goodR b l
  ·have HG:=Lib.hid hg
   have HGD:=Lib.hid (fun w=>good_true w b l hg)
   clear hg
   have r0:w0.cell? ⟨w.heap.size,0,none⟩=some (.int .i64 b):=HQ0.out.cellS rfl
   have r1:w0.cell? ⟨w.heap.size,1,none⟩=some (.int .i64 l):=HQ0.out.cellS rfl
   go_wp2_with fail
   (with_reducible refine (HGD.out _).mono ?_)
   rintro e w1 ⟨rfl,hb1⟩
   have HL1:=Lib.hid (HL0.out.below hb1)
   have HS1:=Lib.hid (HS0.out.below hb1)
   have HB1:=Lib.hid hb1
   clear hb1 r0 r1 HGD
   go_wp2_with fail
   (with_reducible refine (HFN.out _ HL1.out.r).mono ?_)
   rintro e w2 ⟨ptr,rfl,hb2,_,_⟩
   have HB2:Hid (Below w0.heap.size w0 w2):=HB1.out.trans (hb2.mono HB1.out.size)
   have HL2:=Lib.hid (HL1.out.below hb2)
   have HS2:=Lib.hid (HS1.out.below hb2)
   have HN2:=Lib.hid (HSL.out.keep HL.out HS2.out HN0.out)
   clear hb2 HFN HL1 HS1
   obtain ⟨x,hx⟩:∃x,x=(hfind H.Ws H.K name 0).2:=⟨_,rfl⟩
   rw [←hx]
   have HX:=Lib.hid hx
   clear hx
   by_cases hx0:x=0
   ·subst hx0
    have HF:Hid (AddF H name b l t C 7 H):= .inl ⟨by unfold addX;rw [if_neg (by rw [HNM1.out];decide),if_neg (fun q=>q HG.out),if_pos HX.out.symm],rfl⟩
    have zb:=HN2.out
    have z0:w2.cell? ⟨w.heap.size+1,0,none⟩=some (.int .i64 0):=zb.cellS rfl
    have z1:w2.cell? ⟨w.heap.size+1,1,none⟩=some (.int .i64 0):=zb.cellS rfl
    have z2:w2.cell? ⟨w.heap.size+1,2,none⟩=some (.int .i64 0):=zb.cellS rfl
    have z3:w2.cell? ⟨w.heap.size+1,3,none⟩=some (.int .i64 0):=zb.cellS rfl
    have z4:w2.cell? ⟨w.heap.size+1,4,none⟩=some (.int .i64 0):=zb.cellS rfl
    have z5:w2.cell? ⟨w.heap.size+1,5,none⟩=some (.int .i64 0):=zb.cellS rfl
    have z6:w2.cell? ⟨w.heap.size+1,6,none⟩=some (.int .i64 0):=zb.cellS rfl
    have z7:w2.cell? ⟨w.heap.size+1,7,none⟩=some (.int .i64 0):=zb.cellS rfl
    have z8:w2.cell? ⟨w.heap.size+1,8,none⟩=some (.string ⟨#[]⟩):=zb.cellS rfl
    have z9:w2.cell? ⟨w.heap.size+1,9,none⟩=some (.slice none 0 0):=zb.cellS rfl
    have zf0:=zb.frozen 0
    have zf1:=zb.frozen 1
    have zf2:=zb.frozen 2
    have zf3:=zb.frozen 3
    have zf4:=zb.frozen 4
    have zf5:=zb.frozen 5
    have zf6:=zb.frozen 6
    have zf7:=zb.frozen 7
    have zf8:=zb.frozen 8
    have zf9:=zb.frozen 9
    go_wp2_with fail
    obtain ⟨hbk,hmd⟩:=an_refused HN2.out 0
    generalize hWW:World.setCell _ _ _=WW at hbk hmd ⊢
    have k0:WW.cell? ⟨w.heap.size+1,0,none⟩=some (.int .i64 0):=hbk.cellS rfl
    have k1:WW.cell? ⟨w.heap.size+1,1,none⟩=some (.int .i64 0):=hbk.cellS rfl
    have k2:WW.cell? ⟨w.heap.size+1,2,none⟩=some (.int .i64 0):=hbk.cellS rfl
    have k3:WW.cell? ⟨w.heap.size+1,3,none⟩=some (.int .i64 0):=hbk.cellS rfl
    have k4:WW.cell? ⟨w.heap.size+1,4,none⟩=some (.int .i64 0):=hbk.cellS rfl
    have k5:WW.cell? ⟨w.heap.size+1,5,none⟩=some (.int .i64 0):=hbk.cellS rfl
    have k6:WW.cell? ⟨w.heap.size+1,6,none⟩=some (.int .i64 0):=hbk.cellS rfl
    have k7:WW.cell? ⟨w.heap.size+1,7,none⟩=some (.int .i64 0):=hbk.cellS rfl
    have k8:WW.cell? ⟨w.heap.size+1,8,none⟩=some (.string ⟨#[]⟩):=hbk.cellS rfl
    have k9:WW.cell? ⟨w.heap.size+1,9,none⟩=some (.slice none 0 0):=hbk.cellS rfl
    clear hWW hbk
    refine bodyPost_ret (v:= .tuple #[ansV (An.zero 0) (.slice none 0 0),.int .i64 7]) (by simp [results,Tryz.results69,go_sem,ansV,An.zero,k0,k1,k2,k3,k4,k5,k6,k7,k8,k9,str]) rfl ?_
    exact try_no HSL.out HL.out HS2.out HL2.out (St.refl HL.out.ar.rel t) ⟨rfl,rfl,rfl⟩ (by decide) HF.out hmd
   ·have HX0:=Lib.hid hx0
    have hxb:(x==0)=false:=beq_eq_false_iff_ne.2 hx0
    have hxe:decide (x=0)=false:=decide_eq_false hx0
    clear hx0
    have c3:w2.cell? ⟨h,3,none⟩=some (.slice wA H.Ws.length wcap):=HL2.out.blk.cellS rfl
    by_cases h16:H.Ws.length=16
    ·have HF:Hid (AddF H name b l t C 5 H):= .inl ⟨by unfold addX;rw [if_neg (by rw [HNM1.out];decide),if_neg (fun q=>q HG.out),if_neg (fun q=>HX0.out (HX.out.trans q)),if_pos h16],rfl⟩
     rw [h16] at c3
     clear h16 HOF HENT hl16
     have zb:=HN2.out
     have z0:w2.cell? ⟨w.heap.size+1,0,none⟩=some (.int .i64 0):=zb.cellS rfl
     have z1:w2.cell? ⟨w.heap.size+1,1,none⟩=some (.int .i64 0):=zb.cellS rfl
     have z2:w2.cell? ⟨w.heap.size+1,2,none⟩=some (.int .i64 0):=zb.cellS rfl
     have z3:w2.cell? ⟨w.heap.size+1,3,none⟩=some (.int .i64 0):=zb.cellS rfl
     have z4:w2.cell? ⟨w.heap.size+1,4,none⟩=some (.int .i64 0):=zb.cellS rfl
     have z5:w2.cell? ⟨w.heap.size+1,5,none⟩=some (.int .i64 0):=zb.cellS rfl
     have z6:w2.cell? ⟨w.heap.size+1,6,none⟩=some (.int .i64 0):=zb.cellS rfl
     have z7:w2.cell? ⟨w.heap.size+1,7,none⟩=some (.int .i64 0):=zb.cellS rfl
     have z8:w2.cell? ⟨w.heap.size+1,8,none⟩=some (.string ⟨#[]⟩):=zb.cellS rfl
     have z9:w2.cell? ⟨w.heap.size+1,9,none⟩=some (.slice none 0 0):=zb.cellS rfl
     have zf0:=zb.frozen 0
     have zf1:=zb.frozen 1
     have zf2:=zb.frozen 2
     have zf3:=zb.frozen 3
     have zf4:=zb.frozen 4
     have zf5:=zb.frozen 5
     have zf6:=zb.frozen 6
     have zf7:=zb.frozen 7
     have zf8:=zb.frozen 8
     have zf9:=zb.frozen 9
     go_wp2_with fail
     obtain ⟨hbk,hmd⟩:=an_refused HN2.out 0
     generalize hWW:World.setCell _ _ _=WW at hbk hmd ⊢
     have k0:WW.cell? ⟨w.heap.size+1,0,none⟩=some (.int .i64 0):=hbk.cellS rfl
     have k1:WW.cell? ⟨w.heap.size+1,1,none⟩=some (.int .i64 0):=hbk.cellS rfl
     have k2:WW.cell? ⟨w.heap.size+1,2,none⟩=some (.int .i64 0):=hbk.cellS rfl
     have k3:WW.cell? ⟨w.heap.size+1,3,none⟩=some (.int .i64 0):=hbk.cellS rfl
     have k4:WW.cell? ⟨w.heap.size+1,4,none⟩=some (.int .i64 0):=hbk.cellS rfl
     have k5:WW.cell? ⟨w.heap.size+1,5,none⟩=some (.int .i64 0):=hbk.cellS rfl
     have k6:WW.cell? ⟨w.heap.size+1,6,none⟩=some (.int .i64 0):=hbk.cellS rfl
     have k7:WW.cell? ⟨w.heap.size+1,7,none⟩=some (.int .i64 0):=hbk.cellS rfl
     have k8:WW.cell? ⟨w.heap.size+1,8,none⟩=some (.string ⟨#[]⟩):=hbk.cellS rfl
     have k9:WW.cell? ⟨w.heap.size+1,9,none⟩=some (.slice none 0 0):=hbk.cellS rfl
     clear hWW hbk
     refine bodyPost_ret (v:= .tuple #[ansV (An.zero 0) (.slice none 0 0),.int .i64 5]) (by simp [results,Tryz.results69,go_sem,ansV,An.zero,k0,k1,k2,k3,k4,k5,k6,k7,k8,k9,str]) rfl ?_
     exact try_no HSL.out HL.out HS2.out HL2.out (St.refl HL.out.ar.rel t) ⟨rfl,rfl,rfl⟩ (by decide) HF.out hmd
    ·have hlt:(H.Ws.length:Int)<16:=by omega
     have H16:=Lib.hid h16
     clear h16 hl16
     go_wp2_with fail
     (with_reducible refine (HOF.out w2 HB2.out).mono ?_)
     intro e w3 hq
     unfold OfP at hq
     obtain ⟨r,nm,S',A',R',bad,rfl,hgr,hh,ha,hst⟩:=hq
     have HL3:=Lib.hid (HL2.out.grow ha hst hgr.st)
     have HS3:Hid (HStep h p R (.slice wA H.Ws.length wcap) kv R' (.slice wA H.Ws.length wcap) kv w0 w3):=HS2.out.trans (HStep.arena hst)
     have HX9:Hid (addX H name b l=0):=by unfold addX;show _=_;rw [if_neg (by rw [HNM1.out];decide),if_neg (fun q=>q HG.out),if_neg (fun q=>HX0.out (HX.out.trans q)),if_neg H16.out]
     have HGR:=Lib.hid hgr
     have HHH:=Lib.hid hh
     clear hgr hh ha hst HOF HB1 HB2 HL2 HS2 HN2 c3 hlt hxb hxe
     by_cases hb0:bad=0
     ·subst hb0
      rw [if_pos rfl]
      have HGX:=Lib.hid (HHH.out rfl)
      clear HHH
      go_wp2_with fail
      generalize hw4:World.alloc w3 _=w4
      have hba:Below w3.heap.size w3 w4:=by subst hw4;exact (Below.refl _ _).alloc (Nat.le_refl _) _
      have he4:Blk w4 w3.heap.size 137 #[.string (str name),.int .i64 r,.int .i64 b,.int .i64 l]:=by subst hw4;exact Blk.new w3 _ _
      have HL4:=Lib.hid (HL3.out.below hba)
      have HS4:=Lib.hid (HS3.out.below hba)
      have HWO:Hid (WOk S' A' t ⟨name,r,k,P,b,l⟩):=Lib.hid ⟨HGX.out,HKS.out.1,HKS.out.2.1,HKS.out.2.2.1,HKS.out.2.2.2,HG.out,HNM1.out⟩
      have HNI:=Lib.hid (name_new (K:=H.K) (Ws:=H.Ws) HNM1.out (fun e=>HX0.out (HX.out.trans e)))
      have HLT:Hid (H.Ws.length<16):=Lib.hid (by have:=HL4.out.len;have:=H16.out;omega)
      have e0:w4.cell? ⟨w3.heap.size,0,none⟩=some (.string (str name)):=he4.cellS rfl
      have e1:w4.cell? ⟨w3.heap.size,1,none⟩=some (.int .i64 r):=he4.cellS rfl
      have e2:w4.cell? ⟨w3.heap.size,2,none⟩=some (.int .i64 b):=he4.cellS rfl
      have e3:w4.cell? ⟨w3.heap.size,3,none⟩=some (.int .i64 l):=he4.cellS rfl
      have c3:w4.cell? ⟨h,3,none⟩=some (.slice wA H.Ws.length wcap):=HL4.out.blk.cellS rfl
      have c3a:(w4.alloc (.cells #[.string (str name),.int .i64 r,.int .i64 b,.int .i64 l] 137)).cell? ⟨h,3,none⟩=some (.slice wA H.Ws.length wcap):=(HL4.out.blk.alloc _).cellS rfl
      have HXR:Hid (Rd (w4.alloc (.cells #[.string (str name),.int .i64 r,.int .i64 b,.int .i64 l] 137)) (w4.heap.size+1) 4 (.slice (some ⟨w4.heap.size,0,none⟩) 1 1) 1 (wdV ⟨name,r,k,P,b,l⟩)):=Lib.hid (Rd.fresh w4 137 #[.string (str name),.int .i64 r,.int .i64 b,.int .i64 l] 4 1 rfl (by decide))
      clear hw4 hba he4 HG HNM1 HX0 HX H16
      go_region_law (first | ((refine step_append_sl _ rfl (.tmp 55) (.tmp 57) 99 rfl 137 (.agg #[.string ⟨#[]⟩,.int .i64 0,.int .i64 0,.int .i64 0]) 4 40 Tryz.underlying99 Tryz.infoWorld rfl (by decide) rfl (by exact HL4.out.ws.alloc _) rfl (by exact HXR.out) wdV_one (by have:=HLT.out;omega) (by have:=HLT.out;unfold maxLen;omega) ?_);intro v6 w6 hs6 hm6 hd6;obtain ⟨m1,m2,m3,m4⟩:=Hl.more HL4.out HWO.out HNI.out HLT.out hs6 hm6.undrew hd6;obtain ⟨A6,cap6,rfl,_,_⟩:=hs6.form;clear hs6 hm6 hd6))
      all_goals (
       generalize hw7:World.setCell _ _ _=w7 at m3 m4 ⊢
       have HL7:=Lib.hid m3
       have HS7:=Lib.hid (HS4.out.trans m4)
       have HN7:=Lib.hid (HSL.out.keep HL.out HS7.out HN0.out)
       clear hw7 m1 m2 m3 m4 e0 e1 e2 e3 c3 c3a HXR HLT HNI HENT
       have zb:=HN7.out
       have z0:w7.cell? ⟨w.heap.size+1,0,none⟩=some (.int .i64 0):=zb.cellS rfl
       have z1:w7.cell? ⟨w.heap.size+1,1,none⟩=some (.int .i64 0):=zb.cellS rfl
       have z2:w7.cell? ⟨w.heap.size+1,2,none⟩=some (.int .i64 0):=zb.cellS rfl
       have z3:w7.cell? ⟨w.heap.size+1,3,none⟩=some (.int .i64 0):=zb.cellS rfl
       have z4:w7.cell? ⟨w.heap.size+1,4,none⟩=some (.int .i64 0):=zb.cellS rfl
       have z5:w7.cell? ⟨w.heap.size+1,5,none⟩=some (.int .i64 0):=zb.cellS rfl
       have z6:w7.cell? ⟨w.heap.size+1,6,none⟩=some (.int .i64 0):=zb.cellS rfl
       have z7:w7.cell? ⟨w.heap.size+1,7,none⟩=some (.int .i64 0):=zb.cellS rfl
       have z8:w7.cell? ⟨w.heap.size+1,8,none⟩=some (.string ⟨#[]⟩):=zb.cellS rfl
       have z9:w7.cell? ⟨w.heap.size+1,9,none⟩=some (.slice none 0 0):=zb.cellS rfl
       have zf0:=zb.frozen 0
       have zf1:=zb.frozen 1
       have zf2:=zb.frozen 2
       have zf3:=zb.frozen 3
       have zf4:=zb.frozen 4
       have zf5:=zb.frozen 5
       have zf6:=zb.frozen 6
       have zf7:=zb.frozen 7
       have zf8:=zb.frozen 8
       have zf9:=zb.frozen 9
       go_wp2_with fail
       have hbm:Blk ((((((((((w7.setCell ⟨w.heap.size+1,0,none⟩ (.int .i64 0)).setCell ⟨w.heap.size+1,1,none⟩ (.int .i64 0)).setCell ⟨w.heap.size+1,2,none⟩ (.int .i64 0)).setCell ⟨w.heap.size+1,3,none⟩ (.int .i64 0)).setCell ⟨w.heap.size+1,4,none⟩ (.int .i64 0)).setCell ⟨w.heap.size+1,5,none⟩ (.int .i64 0)).setCell ⟨w.heap.size+1,6,none⟩ (.int .i64 0)).setCell ⟨w.heap.size+1,7,none⟩ (.int .i64 0)).setCell ⟨w.heap.size+1,8,none⟩ (.string ⟨#[]⟩)).setCell ⟨w.heap.size+1,9,none⟩ (.slice none 0 0)) (w.heap.size+1) 57 (anC (An.zero 0) (.slice none 0 0))∧Mod (fun b=>b=w.heap.size+1) w7 ((((((((((w7.setCell ⟨w.heap.size+1,0,none⟩ (.int .i64 0)).setCell ⟨w.heap.size+1,1,none⟩ (.int .i64 0)).setCell ⟨w.heap.size+1,2,none⟩ (.int .i64 0)).setCell ⟨w.heap.size+1,3,none⟩ (.int .i64 0)).setCell ⟨w.heap.size+1,4,none⟩ (.int .i64 0)).setCell ⟨w.heap.size+1,5,none⟩ (.int .i64 0)).setCell ⟨w.heap.size+1,6,none⟩ (.int .i64 0)).setCell ⟨w.heap.size+1,7,none⟩ (.int .i64 0)).setCell ⟨w.heap.size+1,8,none⟩ (.string ⟨#[]⟩)).setCell ⟨w.heap.size+1,9,none⟩ (.slice none 0 0)):=an_stored HN7.out (An.zero 0) (.slice none 0 0)
       obtain ⟨hbk,hmd⟩:=hbm
       generalize hWW:World.setCell _ _ _=WW at hbk hmd ⊢
       have k0:WW.cell? ⟨w.heap.size+1,0,none⟩=some (.int .i64 0):=hbk.cellS rfl
       have k1:WW.cell? ⟨w.heap.size+1,1,none⟩=some (.int .i64 0):=hbk.cellS rfl
       have k2:WW.cell? ⟨w.heap.size+1,2,none⟩=some (.int .i64 0):=hbk.cellS rfl
       have k3:WW.cell? ⟨w.heap.size+1,3,none⟩=some (.int .i64 0):=hbk.cellS rfl
       have k4:WW.cell? ⟨w.heap.size+1,4,none⟩=some (.int .i64 0):=hbk.cellS rfl
       have k5:WW.cell? ⟨w.heap.size+1,5,none⟩=some (.int .i64 0):=hbk.cellS rfl
       have k6:WW.cell? ⟨w.heap.size+1,6,none⟩=some (.int .i64 0):=hbk.cellS rfl
       have k7:WW.cell? ⟨w.heap.size+1,7,none⟩=some (.int .i64 0):=hbk.cellS rfl
       have k8:WW.cell? ⟨w.heap.size+1,8,none⟩=some (.string ⟨#[]⟩):=hbk.cellS rfl
       have k9:WW.cell? ⟨w.heap.size+1,9,none⟩=some (.slice none 0 0):=hbk.cellS rfl
       clear hWW hbk
       refine bodyPost_ret (v:= .tuple #[ansV (An.zero 0) (.slice none 0 0),.int .i64 0]) (by simp [results,Tryz.results69,go_sem,ansV,An.zero,k0,k1,k2,k3,k4,k5,k6,k7,k8,k9,str]) rfl ?_
       exact try_ok (H':={H with S:=S',A:=A',Ws:=H.Ws++ [⟨name,r,k,P,b,l⟩]}) HSL.out HL.out HS7.out HL7.out HGR.out.st.toOth rfl ⟨HX9.out,rfl,HGR.out,r,HGX.out,rfl,rfl,rfl⟩ (rd_none _) new_none hmd
       skip)
     ·have HB0:=Lib.hid hb0
      rw [if_neg hb0]
      have hbb:(bad==0)=false:=beq_eq_false_iff_ne.2 hb0
      have hbn:(bad !=0)=true:=by simp [hb0]
      have hba:Below w3.heap.size w3 (w3.alloc (.cells #[.string nm,.int .i64 0,.int .i64 b,.int .i64 l] 137)):=(Below.refl _ _).alloc (Nat.le_refl _) _
      have HL4:=Lib.hid (HL3.out.below hba)
      have HS4:=Lib.hid (HS3.out.below hba)
      have HN4:=Lib.hid (HSL.out.keep HL.out HS4.out HN0.out)
      have HF:Hid (AddF H name b l t C bad {H with S:=S',A:=A'}):= .inr ⟨HX9.out,HGR.out⟩
      clear hb0 hba
      have zb:=HN4.out
      have z0:(w3.alloc (.cells #[.string nm,.int .i64 0,.int .i64 b,.int .i64 l] 137)).cell? ⟨w.heap.size+1,0,none⟩=some (.int .i64 0):=zb.cellS rfl
      have z1:(w3.alloc (.cells #[.string nm,.int .i64 0,.int .i64 b,.int .i64 l] 137)).cell? ⟨w.heap.size+1,1,none⟩=some (.int .i64 0):=zb.cellS rfl
      have z2:(w3.alloc (.cells #[.string nm,.int .i64 0,.int .i64 b,.int .i64 l] 137)).cell? ⟨w.heap.size+1,2,none⟩=some (.int .i64 0):=zb.cellS rfl
      have z3:(w3.alloc (.cells #[.string nm,.int .i64 0,.int .i64 b,.int .i64 l] 137)).cell? ⟨w.heap.size+1,3,none⟩=some (.int .i64 0):=zb.cellS rfl
      have z4:(w3.alloc (.cells #[.string nm,.int .i64 0,.int .i64 b,.int .i64 l] 137)).cell? ⟨w.heap.size+1,4,none⟩=some (.int .i64 0):=zb.cellS rfl
      have z5:(w3.alloc (.cells #[.string nm,.int .i64 0,.int .i64 b,.int .i64 l] 137)).cell? ⟨w.heap.size+1,5,none⟩=some (.int .i64 0):=zb.cellS rfl
      have z6:(w3.alloc (.cells #[.string nm,.int .i64 0,.int .i64 b,.int .i64 l] 137)).cell? ⟨w.heap.size+1,6,none⟩=some (.int .i64 0):=zb.cellS rfl
      have z7:(w3.alloc (.cells #[.string nm,.int .i64 0,.int .i64 b,.int .i64 l] 137)).cell? ⟨w.heap.size+1,7,none⟩=some (.int .i64 0):=zb.cellS rfl
      have z8:(w3.alloc (.cells #[.string nm,.int .i64 0,.int .i64 b,.int .i64 l] 137)).cell? ⟨w.heap.size+1,8,none⟩=some (.string ⟨#[]⟩):=zb.cellS rfl
      have z9:(w3.alloc (.cells #[.string nm,.int .i64 0,.int .i64 b,.int .i64 l] 137)).cell? ⟨w.heap.size+1,9,none⟩=some (.slice none 0 0):=zb.cellS rfl
      have zf0:=zb.frozen 0
      have zf1:=zb.frozen 1
      have zf2:=zb.frozen 2
      have zf3:=zb.frozen 3
      have zf4:=zb.frozen 4
      have zf5:=zb.frozen 5
      have zf6:=zb.frozen 6
      have zf7:=zb.frozen 7
      have zf8:=zb.frozen 8
      have zf9:=zb.frozen 9
      go_wp2_with fail
      obtain ⟨hbk,hmd⟩:=an_refused HN4.out 0
      generalize hWW:World.setCell _ _ _=WW at hbk hmd ⊢
      have k0:WW.cell? ⟨w.heap.size+1,0,none⟩=some (.int .i64 0):=hbk.cellS rfl
      have k1:WW.cell? ⟨w.heap.size+1,1,none⟩=some (.int .i64 0):=hbk.cellS rfl
      have k2:WW.cell? ⟨w.heap.size+1,2,none⟩=some (.int .i64 0):=hbk.cellS rfl
      have k3:WW.cell? ⟨w.heap.size+1,3,none⟩=some (.int .i64 0):=hbk.cellS rfl
      have k4:WW.cell? ⟨w.heap.size+1,4,none⟩=some (.int .i64 0):=hbk.cellS rfl
      have k5:WW.cell? ⟨w.heap.size+1,5,none⟩=some (.int .i64 0):=hbk.cellS rfl
      have k6:WW.cell? ⟨w.heap.size+1,6,none⟩=some (.int .i64 0):=hbk.cellS rfl
      have k7:WW.cell? ⟨w.heap.size+1,7,none⟩=some (.int .i64 0):=hbk.cellS rfl
      have k8:WW.cell? ⟨w.heap.size+1,8,none⟩=some (.string ⟨#[]⟩):=hbk.cellS rfl
      have k9:WW.cell? ⟨w.heap.size+1,9,none⟩=some (.slice none 0 0):=hbk.cellS rfl
      clear hWW hbk
      refine bodyPost_ret (v:= .tuple #[ansV (An.zero 0) (.slice none 0 0),.int .i64 bad]) (by simp [results,Tryz.results69,go_sem,ansV,An.zero,k0,k1,k2,k3,k4,k5,k6,k7,k8,k9,str]) rfl ?_
      exact try_no (H':={H with S:=S',A:=A'}) HSL.out HL.out HS4.out HL4.out HGR.out.st ⟨rfl,rfl,rfl⟩ HB0.out HF.out hmd
  ·have HG:=Lib.hid hg
   have HGD:=Lib.hid (fun w=>good_false w b l hbl hg)
   have HF:Hid (AddF H name b l t C 4 H):= .inl ⟨by unfold addX;rw [if_neg (by rw [HNM1.out];decide),if_pos hg],rfl⟩
   clear hg
   have r0:w0.cell? ⟨w.heap.size,0,none⟩=some (.int .i64 b):=HQ0.out.cellS rfl
   have r1:w0.cell? ⟨w.heap.size,1,none⟩=some (.int .i64 l):=HQ0.out.cellS rfl
   go_wp2_with fail
   (with_reducible refine (HGD.out _).mono ?_)
   rintro e w1 ⟨rfl,hb1⟩
   have HL1:=Lib.hid (HL0.out.below hb1)
   have HS1:=Lib.hid (HS0.out.below hb1)
   have HN1:=Lib.hid (HSL.out.keep HL.out HS1.out HN0.out)
   clear hb1 r0 r1 HGD
   have zb:=HN1.out
   have z0:w1.cell? ⟨w.heap.size+1,0,none⟩=some (.int .i64 0):=zb.cellS rfl
   have z1:w1.cell? ⟨w.heap.size+1,1,none⟩=some (.int .i64 0):=zb.cellS rfl
   have z2:w1.cell? ⟨w.heap.size+1,2,none⟩=some (.int .i64 0):=zb.cellS rfl
   have z3:w1.cell? ⟨w.heap.size+1,3,none⟩=some (.int .i64 0):=zb.cellS rfl
   have z4:w1.cell? ⟨w.heap.size+1,4,none⟩=some (.int .i64 0):=zb.cellS rfl
   have z5:w1.cell? ⟨w.heap.size+1,5,none⟩=some (.int .i64 0):=zb.cellS rfl
   have z6:w1.cell? ⟨w.heap.size+1,6,none⟩=some (.int .i64 0):=zb.cellS rfl
   have z7:w1.cell? ⟨w.heap.size+1,7,none⟩=some (.int .i64 0):=zb.cellS rfl
   have z8:w1.cell? ⟨w.heap.size+1,8,none⟩=some (.string ⟨#[]⟩):=zb.cellS rfl
   have z9:w1.cell? ⟨w.heap.size+1,9,none⟩=some (.slice none 0 0):=zb.cellS rfl
   have zf0:=zb.frozen 0
   have zf1:=zb.frozen 1
   have zf2:=zb.frozen 2
   have zf3:=zb.frozen 3
   have zf4:=zb.frozen 4
   have zf5:=zb.frozen 5
   have zf6:=zb.frozen 6
   have zf7:=zb.frozen 7
   have zf8:=zb.frozen 8
   have zf9:=zb.frozen 9
   go_wp2_with fail
   obtain ⟨hbk,hmd⟩:=an_refused HN1.out 0
   generalize hWW:World.setCell _ _ _=WW at hbk hmd ⊢
   have k0:WW.cell? ⟨w.heap.size+1,0,none⟩=some (.int .i64 0):=hbk.cellS rfl
   have k1:WW.cell? ⟨w.heap.size+1,1,none⟩=some (.int .i64 0):=hbk.cellS rfl
   have k2:WW.cell? ⟨w.heap.size+1,2,none⟩=some (.int .i64 0):=hbk.cellS rfl
   have k3:WW.cell? ⟨w.heap.size+1,3,none⟩=some (.int .i64 0):=hbk.cellS rfl
   have k4:WW.cell? ⟨w.heap.size+1,4,none⟩=some (.int .i64 0):=hbk.cellS rfl
   have k5:WW.cell? ⟨w.heap.size+1,5,none⟩=some (.int .i64 0):=hbk.cellS rfl
   have k6:WW.cell? ⟨w.heap.size+1,6,none⟩=some (.int .i64 0):=hbk.cellS rfl
   have k7:WW.cell? ⟨w.heap.size+1,7,none⟩=some (.int .i64 0):=hbk.cellS rfl
   have k8:WW.cell? ⟨w.heap.size+1,8,none⟩=some (.string ⟨#[]⟩):=hbk.cellS rfl
   have k9:WW.cell? ⟨w.heap.size+1,9,none⟩=some (.slice none 0 0):=hbk.cellS rfl
   clear hWW hbk
   refine bodyPost_ret (v:= .tuple #[ansV (An.zero 0) (.slice none 0 0),.int .i64 4]) (by simp [results,Tryz.results69,go_sem,ansV,An.zero,k0,k1,k2,k3,k4,k5,k6,k7,k8,k9,str]) rfl ?_
   exact try_no HSL.out HL.out HS1.out HL1.out (St.refl HL.out.ar.rel t) ⟨rfl,rfl,rfl⟩ (by decide) HF.out hmd
end Go.Proofs.YthohnjgnpapnoaaGreatDoor
