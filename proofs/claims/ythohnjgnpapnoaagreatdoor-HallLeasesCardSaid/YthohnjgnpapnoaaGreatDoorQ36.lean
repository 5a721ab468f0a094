/- lifelodgekeep: HallLeases, the walk. -/
import Derived.Test.YthohnjgnpapnoaaGreatDoorQ34
import Derived.Test.YthohnjgnpapnoaaGreatDoorQ35
import Derived.Test.YthohnjgnpapnoaaGreatDoorQ15
set_option linter.unusedVariables false
set_option linter.unusedSimpArgs false
namespace Go.Proofs.YthohnjgnpapnoaaGreatDoor
open Go.RowKit
theorem below_drewL {B:Nat} {w w1:World} (h:Below B w w1) (n:Nat):Below B w (w1.drewN n):=⟨h.os,h.tape,h.output,h.size,h.block⟩
theorem key_len {H H':HS} {q:SReq} {t:Nat} {d:Int} {a:An} (D:DoR H q t d a H') (hv:q.verb=9) (hs:H.ser<100):a.key.length≤41:=by
 by_cases e:a.code=0
 ·rw [((D.yes e).lease' hv).2.1]
  exact (mint_keyed (s:=(markH H t).ser) hs d).2
 ·rw [(D.no e).1];show (0:Nat)≤41;decide
set_option maxRecDepth 100000 in
set_option maxHeartbeats 12800000 in
theorem leases_any (W:World) (N:Nat) (v:Value) (l:List (Int×Int)) (rights:Int) (hR:Rd W W.heap.size 2 v N (flat l)) (hin:∀c∈l,inC c) (hr: -9223372036854775808≤rights∧rights≤9223372036854775807) (hg:4<W.heap.size∧tabOk W):
 Calls Tryz.prog 8 #[v,.int .i64 rights] W fun e W'=>e= .returned (.bool true)∧Below W.heap.size W W':=by
 obtain ⟨vA,vcap,rfl,hc1,hc2⟩:=hR.form
 have HR:=Lib.hid hR
 have HIN:=Lib.hid hin
 have HRI:=Lib.hid hr
 have HG:=Lib.hid hg
 clear hR hin hr hg
 go_enter Tryz.func8,Tryz.ntmps8
 go_wp2_with fail
 (with_reducible refine (rooms_any W 200000 (by decide)).mono ?_)
 rintro e w1 ⟨p,h,R,S,A,rfl,hl,hA,hrm,hqt,hwi,hyg,hbl⟩
 have HZ:=Lib.hid (And.intro hA (And.intro hrm (And.intro hqt hwi)))
 have HL1:Hid (LSt W h p 9 77 R ⟨S,A,[],0,[]⟩ (.slice none 0 0) (.slice none 0 0) [] [] [] w1):=⟨⟨hl,hyg,hbl⟩,fun _ h=>(by cases h),fun _ h=>(by cases h),List.nodup_nil,fun _ h=>(by cases h),fun _ h=>(by cases h)⟩
 have HSM:Hid (Calls Tryz.prog 28 #[.slice vA N vcap,.int .i64 30,.int .i64 1000] w1 (SomePost w1 N 30 l 1000)):=some_any w1 N 30 (.slice vA N vcap) l 1000 (HR.out.stepX (Mod.of_below_all hbl) (fun _ _ _ h=>h)) HIN.out (by decide) (by decide) (by decide)
 have HR0:=Lib.hid hl.ar.rel
 clear hl hA hrm hqt hwi hyg hbl
 go_wp2_with fail
 (with_reducible refine HSM.out.mono ?_)
 rintro e w2 ⟨v2,rfl,hsl2,hf2,hb2⟩
 have HLL:Hid ((someL l 30 1000).length≤30):=by show (someL l 30 1000).length≤30;rw [someL_length];exact Nat.min_le_left _ _
 have HOK:Hid (∀c∈someL l 30 1000,okC c):=fun c hc=>(by have:=someL_near (by decide) hc;unfold okC okZ;omega)
 have HL2:Hid (LSt W h p 9 77 R ⟨S,A,[],0,[]⟩ (.slice none 0 0) (.slice none 0 0) [] [] [(v2,(someL l 30 1000))] w2):=by
  have hl:=hsl2.rd.pairs.1
  exact HL1.out.made hb2 (by rw [hl];exact hsl2) hf2
 have HSP:=Lib.hid (fun wx=>spot_any rights 3 (by decide) (by decide) HRI.out.1 HRI.out.2 wx)
 clear hsl2 hf2 hb2 HSM
 go_wp2_with fail
 (with_reducible refine (HSP.out _).mono ?_)
 rintro e wq ⟨rfl,rfl⟩
 have hr0:0≤rights%3:=Int.emod_nonneg _ (by decide)
 have hr3:rights%3<3:=Int.emod_lt_of_pos _ (by decide)
 obtain ⟨r,hrr⟩:∃r,r=rights%3:=⟨_,rfl⟩
 rw [←hrr] at hr0 hr3 ⊢
 have HRR:=Lib.hid hrr
 clear hrr
 have HD1:Hid (Calls Tryz.prog 25 #[.pointer (some ⟨h,0,none⟩),.agg #[.int .i64 1,.string ⟨#[97,98]⟩,.string ⟨#[]⟩,.int .i64 8,.int .i64 12,.int .i64 0,.slice none 0 0]] w2 (DoL W h p 9 77 R ⟨S,A,[],0,[]⟩ (.slice none 0 0) (.slice none 0 0) [] [] [(v2,(someL l 30 1000))] ⟨1,[97,98],[],8,12,0,[]⟩ w2)):=
  HL2.out.do_nil ⟨1,[97,98],[],8,12,0,[]⟩ (by decide) (by decide) rfl (by decide) (fun h=>by cases h) (fun h=>by cases h)
 go_wp2_with fail
 (with_reducible refine HD1.out.mono ?_)
 rintro e w3 ⟨a1,vA1,vn1,vcap1,H1,wv1,kv1,R1,rfl,hd1,hl1,hz1⟩
 have HR1:=Lib.hid hd1
 have HRL1:=Lib.hid hl1.ha.hl.ar.rel
 have HL3:Hid (LSt W h p 9 77 R1 H1 wv1 kv1 [(w3.heap.size,57,#[.int .i64 a1.code,.int .i64 a1.n,.int .i64 a1.x0,.int .i64 a1.y0,.int .i64 a1.x1,.int .i64 a1.y1,.int .i64 a1.b,.int .i64 a1.l,.string (str a1.key),.slice vA1 vn1 vcap1])] [] [(v2,(someL l 30 1000))] (w3.alloc (.cells #[.int .i64 a1.code,.int .i64 a1.n,.int .i64 a1.x0,.int .i64 a1.y0,.int .i64 a1.x1,.int .i64 a1.y1,.int .i64 a1.b,.int .i64 a1.l,.string (str a1.key),.slice vA1 vn1 vcap1] 57))):=hl1.drop.alloc _ _
 have HD2:Hid (Calls Tryz.prog 25 #[.pointer (some ⟨h,0,none⟩),.agg #[.int .i64 9,.string ⟨#[97,98]⟩,.string ⟨#[]⟩,.int .i64 0,.int .i64 0,.int .i64 (1+r),.slice none 0 0]] (w3.alloc (.cells #[.int .i64 a1.code,.int .i64 a1.n,.int .i64 a1.x0,.int .i64 a1.y0,.int .i64 a1.x1,.int .i64 a1.y1,.int .i64 a1.b,.int .i64 a1.l,.string (str a1.key),.slice vA1 vn1 vcap1] 57)) (DoL W h p 9 77 R1 H1 wv1 kv1 [(w3.heap.size,57,#[.int .i64 a1.code,.int .i64 a1.n,.int .i64 a1.x0,.int .i64 a1.y0,.int .i64 a1.x1,.int .i64 a1.y1,.int .i64 a1.b,.int .i64 a1.l,.string (str a1.key),.slice vA1 vn1 vcap1])] [] [(v2,(someL l 30 1000))] ⟨9,[97,98],[],0,0,1+r,[]⟩ (w3.alloc (.cells #[.int .i64 a1.code,.int .i64 a1.n,.int .i64 a1.x0,.int .i64 a1.y0,.int .i64 a1.x1,.int .i64 a1.y1,.int .i64 a1.b,.int .i64 a1.l,.string (str a1.key),.slice vA1 vn1 vcap1] 57)))):=
  HL3.out.do_nil ⟨9,[97,98],[],0,0,1+r,[]⟩ (by show (2:Nat)≤_;decide) (by show (0:Nat)≤_;decide) rfl (by show _≤(0:Int)∧(0:Int)≤_;decide) (fun _=>by have:=HR1.out.ser;show H1.ser<100;have e:(⟨S,A,[],0,[]⟩:HS).ser=0:=rfl;omega) (fun _=>HG.out)
 clear hd1 hl1 hz1 HD1
 unfold ansV
 go_wp2_with fail
 (with_reducible refine HD2.out.mono ?_)
 generalize hb1:w3.heap.size=b1 at*
 have HB1:=Lib.hid hb1
 clear hb1
 generalize World.alloc w3 _=w4 at*
 rintro e w5 ⟨a2,vA2,vn2,vcap2,H2,wv2,kv2,R2,rfl,hd2,hl2,hz2⟩
 have HR2:=Lib.hid hd2
 have HRL2:=Lib.hid hl2.ha.hl.ar.rel
 have HL5:Hid (LSt W h p 9 77 R2 H2 wv2 kv2 [(w5.heap.size,57,#[.int .i64 a2.code,.int .i64 a2.n,.int .i64 a2.x0,.int .i64 a2.y0,.int .i64 a2.x1,.int .i64 a2.y1,.int .i64 a2.b,.int .i64 a2.l,.string (str a2.key),.slice vA2 vn2 vcap2]),(b1,57,#[.int .i64 a1.code,.int .i64 a1.n,.int .i64 a1.x0,.int .i64 a1.y0,.int .i64 a1.x1,.int .i64 a1.y1,.int .i64 a1.b,.int .i64 a1.l,.string (str a1.key),.slice vA1 vn1 vcap1])] [] [(v2,(someL l 30 1000))] (w5.alloc (.cells #[.int .i64 a2.code,.int .i64 a2.n,.int .i64 a2.x0,.int .i64 a2.y0,.int .i64 a2.x1,.int .i64 a2.y1,.int .i64 a2.b,.int .i64 a2.l,.string (str a2.key),.slice vA2 vn2 vcap2] 57))):=hl2.drop.alloc _ _
 have HKL:Hid (a2.key.length≤4294967296):=by
  have:=key_len HR2.out rfl (by have:=HR1.out.ser;show H1.ser<100;have e:(⟨S,A,[],0,[]⟩:HS).ser=0:=rfl;omega)
  show a2.key.length≤4294967296
  omega
 clear hd2 hl2 hz2 HD2
 unfold ansV
 go_wp2_with fail
 generalize hb2:w5.heap.size=b2 at*
 have HB2:=Lib.hid hb2
 clear hb2
 generalize World.alloc w5 _=w6 at*
 have HCQ:Hid (∀wx Bs,LSt W h p 9 77 R2 H2 wv2 kv2 Bs [] [(v2,(someL l 30 1000))] wx→Calls Tryz.prog 29 #[v2] wx (CelL W h p 9 77 R2 H2 wv2 kv2 Bs [] [(v2,(someL l 30 1000))] (someL l 30 1000) wx)):=fun wx Bs g=>g.copy List.mem_cons_self (by have:=HLL.out;omega)
 have HDQ:Hid (∀wx Bs Ms qA qcap,LSt W h p 9 77 R2 H2 wv2 kv2 Bs [] ((.slice qA (someL l 30 1000).length qcap,(someL l 30 1000))::Ms) wx→Calls Tryz.prog 25 #[.pointer (some ⟨h,0,none⟩),.agg #[.int .i64 2,.string (str a2.key),.string ⟨#[]⟩,.int .i64 0,.int .i64 0,.int .i64 0,.slice qA (someL l 30 1000).length qcap]] wx (DoL W h p 9 77 R2 H2 wv2 kv2 Bs [] ((.slice qA (someL l 30 1000).length qcap,(someL l 30 1000))::Ms) ⟨2,a2.key,[],0,0,0,(someL l 30 1000)⟩ wx)):=fun wx Bs Ms qA qcap g=>g.do_own ⟨2,a2.key,[],0,0,0,(someL l 30 1000)⟩ qA qcap List.mem_cons_self HKL.out (by show (0:Nat)≤_;decide) (by have:=HLL.out;show (someL l 30 1000).length*16≤_;omega) (by show _≤(0:Int)∧(0:Int)≤_;decide) (fun h=>absurd h (by show ¬(2:Int)=9;decide)) (fun h=>absurd h (by show ¬(2:Int)=9;decide))
 have k8:=HL5.out.cell List.mem_cons_self 8 rfl
 have NE6:Hid (b2≠w6.heap.size):=HL5.out.ne (by simp)
 go_cut [10] (fun av wx=>∃(b3:Nat) (a3:An) (vA3:Option Addr) (vn3 vcap3:Nat) (H3:HS) (wv3 kv3:Value) (R3:ArR),av= .pointer (some ⟨b3,0,none⟩)∧DoR H2 ⟨2,a2.key,[],0,0,0,(someL l 30 1000)⟩ 9 77 a3 H3∧LSt W h p 9 77 R3 H3 wv3 kv3 [(b3,57,#[.int .i64 a3.code,.int .i64 a3.n,.int .i64 a3.x0,.int .i64 a3.y0,.int .i64 a3.x1,.int .i64 a3.y1,.int .i64 a3.b,.int .i64 a3.l,.string (str a3.key),.slice vA3 vn3 vcap3]),(b2,57,#[.int .i64 a2.code,.int .i64 a2.n,.int .i64 a2.x0,.int .i64 a2.y0,.int .i64 a2.x1,.int .i64 a2.y1,.int .i64 a2.b,.int .i64 a2.l,.string (str a2.key),.slice vA2 vn2 vcap2]),(b1,57,#[.int .i64 a1.code,.int .i64 a1.n,.int .i64 a1.x0,.int .i64 a1.y0,.int .i64 a1.x1,.int .i64 a1.y1,.int .i64 a1.b,.int .i64 a1.l,.string (str a1.key),.slice vA1 vn1 vcap1])] [] [(v2,(someL l 30 1000))] wx)
 case first=>
  go_region_held3 (fun w'=>w'.cell? ⟨b2,8,none⟩=some (.string (str a2.key)))
   (first | (with_reducible exact k8) | (with_reducible exact e8) | (with_reducible exact e8') | ((refine cell_far NE7.out ?_);(refine cell_far NE7.out ?_);(refine cell_far NE7.out ?_);(refine cell_far NE7.out ?_);(refine cell_far NE7.out ?_);(refine cell_far NE7.out ?_);(refine cell_far NE7.out ?_);(refine cell_far NE7.out ?_);(refine cell_far NE7.out ?_);(refine cell_far NE7.out ?_);exact e8') | ((refine cell_far NE6.out ?_);(refine cell_far NE6.out ?_);(refine cell_far NE6.out ?_);(refine cell_far NE6.out ?_);(refine cell_far NE6.out ?_);(refine cell_far NE6.out ?_);(refine cell_far NE6.out ?_);(refine cell_far NE6.out ?_);(refine cell_far NE6.out ?_);(refine cell_far NE6.out ?_);exact e8') | go_keep)
   ((first
     | (go_at_call 29;refine (HCQ.out _ _ (by first | exact HL5.out.below (Below.refl _ _).drew | exact (HL5.out.alloc 57 #[.int .i64 0,.int .i64 0,.int .i64 0,.int .i64 0,.int .i64 0,.int .i64 0,.int .i64 0,.int .i64 0,.string ⟨#[]⟩,.slice none 0 0]).below (Below.refl _ _).drew)).mono ?_;intro e w7 hq;obtain ⟨vA7,vcap7,rfl,hl7,hb7⟩:=hq;have HL7:=Lib.hid hl7;have e8:=(HL7.out.cell (b:=b2) (ty:=57) (cs:=#[.int .i64 a2.code,.int .i64 a2.n,.int .i64 a2.x0,.int .i64 a2.y0,.int .i64 a2.x1,.int .i64 a2.y1,.int .i64 a2.b,.int .i64 a2.l,.string (str a2.key),.slice vA2 vn2 vcap2]) (by simp) 8 rfl))
     | (go_at_call 25;refine (HDQ.out _ _ _ _ _ (by first | exact HL7.out | exact HL7.out.alloc 57 #[.int .i64 0,.int .i64 0,.int .i64 0,.int .i64 0,.int .i64 0,.int .i64 0,.int .i64 0,.int .i64 0,.string ⟨#[]⟩,.slice none 0 0])).mono ?_;intro e w8 hq;obtain ⟨a3,vA3,vn3,vcap3,H3,wv3,kv3,R3,rfl,hd3,hl3,hz3⟩:=hq;have HR3:=Lib.hid hd3;have HL8:=Lib.hid hl3;have NE7:Hid (b2≠w7.heap.size):=HL7.out.ne (by simp);have e8':=(HL8.out.cell (b:=b2) (ty:=57) (cs:=#[.int .i64 a2.code,.int .i64 a2.n,.int .i64 a2.x0,.int .i64 a2.y0,.int .i64 a2.x1,.int .i64 a2.y1,.int .i64 a2.b,.int .i64 a2.l,.string (str a2.key),.slice vA2 vn2 vcap2]) (by simp) 8 rfl);have z0:=HL8.out.cell List.mem_cons_self 0 rfl;have zf0:=HL8.out.frozen List.mem_cons_self 0;have z1:=HL8.out.cell List.mem_cons_self 1 rfl;have zf1:=HL8.out.frozen List.mem_cons_self 1;have z2:=HL8.out.cell List.mem_cons_self 2 rfl;have zf2:=HL8.out.frozen List.mem_cons_self 2;have z3:=HL8.out.cell List.mem_cons_self 3 rfl;have zf3:=HL8.out.frozen List.mem_cons_self 3;have z4:=HL8.out.cell List.mem_cons_self 4 rfl;have zf4:=HL8.out.frozen List.mem_cons_self 4;have z5:=HL8.out.cell List.mem_cons_self 5 rfl;have zf5:=HL8.out.frozen List.mem_cons_self 5;have z6:=HL8.out.cell List.mem_cons_self 6 rfl;have zf6:=HL8.out.frozen List.mem_cons_self 6;have z7:=HL8.out.cell List.mem_cons_self 7 rfl;have zf7:=HL8.out.frozen List.mem_cons_self 7;have z8:=HL8.out.cell List.mem_cons_self 8 rfl;have zf8:=HL8.out.frozen List.mem_cons_self 8;have z9:=HL8.out.cell List.mem_cons_self 9 rfl;have zf9:=HL8.out.frozen List.mem_cons_self 9;unfold ansV)))
  all_goals go_wp2_with fail
  all_goals go_meet
  all_goals first
   | exact ⟨w8.heap.size,a3,vA3,vn3,vcap3,H3,wv3,kv3,R3,rfl,HR3.out,HL8.out.drop.dropM.alloc _ _⟩
   | exact ⟨_,a3,vA3,vn3,vcap3,H3,wv3,kv3,R3,rfl,HR3.out,LSt.fill (z:=An.zero 0) (zv:= .slice none 0 0) HL8.out.drop.dropM a3 (.slice vA3 vn3 vcap3)⟩
 case rest=>
  obtain ⟨b3,a3,vA3,vn3,vcap3,H3,wv3,kv3,R3,rfl,hd3,hl3⟩:=hcut
  have HR3:=Lib.hid hd3
  have HLc3:=Lib.hid hl3
  clear hd3 hl3 HCQ HDQ k8 HL5
  skip
  have k4:(World.cell? wc ⟨b2,8,none⟩)=some (.string (str a2.key)):=HLc3.out.cell (b:=b2) (ty:=57) (cs:=#[.int .i64 a2.code,.int .i64 a2.n,.int .i64 a2.x0,.int .i64 a2.y0,.int .i64 a2.x1,.int .i64 a2.y1,.int .i64 a2.b,.int .i64 a2.l,.string (str a2.key),.slice vA2 vn2 vcap2]) (by simp) 8 rfl
  have HD4:Hid (Calls Tryz.prog 25 #[.pointer (some ⟨h,0,none⟩),.agg #[.int .i64 3,.string (str a2.key),.string ⟨#[]⟩,.int .i64 0,.int .i64 0,.int .i64 0,.slice none 0 0]] wc (DoL W h p 9 77 R3 H3 wv3 kv3 [(b3,57,#[.int .i64 a3.code,.int .i64 a3.n,.int .i64 a3.x0,.int .i64 a3.y0,.int .i64 a3.x1,.int .i64 a3.y1,.int .i64 a3.b,.int .i64 a3.l,.string (str a3.key),.slice vA3 vn3 vcap3]),(b2,57,#[.int .i64 a2.code,.int .i64 a2.n,.int .i64 a2.x0,.int .i64 a2.y0,.int .i64 a2.x1,.int .i64 a2.y1,.int .i64 a2.b,.int .i64 a2.l,.string (str a2.key),.slice vA2 vn2 vcap2]),(b1,57,#[.int .i64 a1.code,.int .i64 a1.n,.int .i64 a1.x0,.int .i64 a1.y0,.int .i64 a1.x1,.int .i64 a1.y1,.int .i64 a1.b,.int .i64 a1.l,.string (str a1.key),.slice vA1 vn1 vcap1])] [] [(v2,(someL l 30 1000))] ⟨3,a2.key,[],0,0,0,[]⟩ wc)):=HLc3.out.do_nil ⟨3,a2.key,[],0,0,0,[]⟩ HKL.out (by show (0:Nat)≤_;decide) rfl (by show _≤(0:Int)∧(0:Int)≤_;decide) (fun h=>absurd h (by show ¬(3:Int)=9;decide)) (fun h=>absurd h (by show ¬(3:Int)=9;decide))
  go_wp2_with fail
  (with_reducible refine HD4.out.mono ?_)
  rintro e w14 ⟨a4,vA4,vn4,vcap4,H4,wv4,kv4,R4,rfl,hd4,hl4,hz4⟩
  have HR4:=Lib.hid hd4
  have HL4:Hid (LSt W h p 9 77 R4 H4 wv4 kv4 [(w14.heap.size,57,#[.int .i64 a4.code,.int .i64 a4.n,.int .i64 a4.x0,.int .i64 a4.y0,.int .i64 a4.x1,.int .i64 a4.y1,.int .i64 a4.b,.int .i64 a4.l,.string (str a4.key),.slice vA4 vn4 vcap4]),(b3,57,#[.int .i64 a3.code,.int .i64 a3.n,.int .i64 a3.x0,.int .i64 a3.y0,.int .i64 a3.x1,.int .i64 a3.y1,.int .i64 a3.b,.int .i64 a3.l,.string (str a3.key),.slice vA3 vn3 vcap3]),(b2,57,#[.int .i64 a2.code,.int .i64 a2.n,.int .i64 a2.x0,.int .i64 a2.y0,.int .i64 a2.x1,.int .i64 a2.y1,.int .i64 a2.b,.int .i64 a2.l,.string (str a2.key),.slice vA2 vn2 vcap2]),(b1,57,#[.int .i64 a1.code,.int .i64 a1.n,.int .i64 a1.x0,.int .i64 a1.y0,.int .i64 a1.x1,.int .i64 a1.y1,.int .i64 a1.b,.int .i64 a1.l,.string (str a1.key),.slice vA1 vn1 vcap1])] [(.slice vA4 vn4 vcap4,a4.cells)] [(v2,(someL l 30 1000))] (w14.alloc (.cells #[.int .i64 a4.code,.int .i64 a4.n,.int .i64 a4.x0,.int .i64 a4.y0,.int .i64 a4.x1,.int .i64 a4.y1,.int .i64 a4.b,.int .i64 a4.l,.string (str a4.key),.slice vA4 vn4 vcap4] 57))):=hl4.alloc _ _
  clear hd4 hl4 hz4 HD4 k4
  unfold ansV
  have HSER:Hid (H4.ser<100):=by
   have h1:=HR1.out.ser
   have h2:=HR2.out.ser
   have h3:=HR3.out.ser
   have h4:=HR4.out.ser
   have e:(⟨S,A,[],0,[]⟩:HS).ser=0:=rfl
   show H4.ser<100
   omega
  have k5:(World.cell? (w14.alloc (.cells #[.int .i64 a4.code,.int .i64 a4.n,.int .i64 a4.x0,.int .i64 a4.y0,.int .i64 a4.x1,.int .i64 a4.y1,.int .i64 a4.b,.int .i64 a4.l,.string (str a4.key),.slice vA4 vn4 vcap4] 57)) ⟨b2,8,none⟩)=some (.string (str a2.key)):=HL4.out.cell (b:=b2) (ty:=57) (cs:=#[.int .i64 a2.code,.int .i64 a2.n,.int .i64 a2.x0,.int .i64 a2.y0,.int .i64 a2.x1,.int .i64 a2.y1,.int .i64 a2.b,.int .i64 a2.l,.string (str a2.key),.slice vA2 vn2 vcap2]) (by simp) 8 rfl
  have HD5:Hid (Calls Tryz.prog 25 #[.pointer (some ⟨h,0,none⟩),.agg #[.int .i64 9,.string (str a2.key),.string ⟨#[]⟩,.int .i64 0,.int .i64 0,.int .i64 1,.slice none 0 0]] (w14.alloc (.cells #[.int .i64 a4.code,.int .i64 a4.n,.int .i64 a4.x0,.int .i64 a4.y0,.int .i64 a4.x1,.int .i64 a4.y1,.int .i64 a4.b,.int .i64 a4.l,.string (str a4.key),.slice vA4 vn4 vcap4] 57)) (DoL W h p 9 77 R4 H4 wv4 kv4 [(w14.heap.size,57,#[.int .i64 a4.code,.int .i64 a4.n,.int .i64 a4.x0,.int .i64 a4.y0,.int .i64 a4.x1,.int .i64 a4.y1,.int .i64 a4.b,.int .i64 a4.l,.string (str a4.key),.slice vA4 vn4 vcap4]),(b3,57,#[.int .i64 a3.code,.int .i64 a3.n,.int .i64 a3.x0,.int .i64 a3.y0,.int .i64 a3.x1,.int .i64 a3.y1,.int .i64 a3.b,.int .i64 a3.l,.string (str a3.key),.slice vA3 vn3 vcap3]),(b2,57,#[.int .i64 a2.code,.int .i64 a2.n,.int .i64 a2.x0,.int .i64 a2.y0,.int .i64 a2.x1,.int .i64 a2.y1,.int .i64 a2.b,.int .i64 a2.l,.string (str a2.key),.slice vA2 vn2 vcap2]),(b1,57,#[.int .i64 a1.code,.int .i64 a1.n,.int .i64 a1.x0,.int .i64 a1.y0,.int .i64 a1.x1,.int .i64 a1.y1,.int .i64 a1.b,.int .i64 a1.l,.string (str a1.key),.slice vA1 vn1 vcap1])] [(.slice vA4 vn4 vcap4,a4.cells)] [(v2,(someL l 30 1000))] ⟨9,a2.key,[],0,0,1,[]⟩ (w14.alloc (.cells #[.int .i64 a4.code,.int .i64 a4.n,.int .i64 a4.x0,.int .i64 a4.y0,.int .i64 a4.x1,.int .i64 a4.y1,.int .i64 a4.b,.int .i64 a4.l,.string (str a4.key),.slice vA4 vn4 vcap4] 57)))):=HL4.out.do_nil ⟨9,a2.key,[],0,0,1,[]⟩ HKL.out (by show (0:Nat)≤_;decide) rfl (by show _≤(0:Int)∧(0:Int)≤_;decide) (fun _=>HSER.out) (fun _=>HG.out)
  go_wp2_with fail
  (with_reducible refine HD5.out.mono ?_)
  generalize hb4:w14.heap.size=b4 at*
  have HB4:=Lib.hid hb4
  clear hb4
  generalize World.alloc w14 _=w24 at*
  rintro e w15 ⟨a5,vA5,vn5,vcap5,H5,wv5,kv5,R5,rfl,hd5,hl5,hz5⟩
  have HR5:=Lib.hid hd5
  have HL5:Hid (LSt W h p 9 77 R5 H5 wv5 kv5 [(w15.heap.size,57,#[.int .i64 a5.code,.int .i64 a5.n,.int .i64 a5.x0,.int .i64 a5.y0,.int .i64 a5.x1,.int .i64 a5.y1,.int .i64 a5.b,.int .i64 a5.l,.string (str a5.key),.slice vA5 vn5 vcap5]),(b4,57,#[.int .i64 a4.code,.int .i64 a4.n,.int .i64 a4.x0,.int .i64 a4.y0,.int .i64 a4.x1,.int .i64 a4.y1,.int .i64 a4.b,.int .i64 a4.l,.string (str a4.key),.slice vA4 vn4 vcap4]),(b3,57,#[.int .i64 a3.code,.int .i64 a3.n,.int .i64 a3.x0,.int .i64 a3.y0,.int .i64 a3.x1,.int .i64 a3.y1,.int .i64 a3.b,.int .i64 a3.l,.string (str a3.key),.slice vA3 vn3 vcap3]),(b2,57,#[.int .i64 a2.code,.int .i64 a2.n,.int .i64 a2.x0,.int .i64 a2.y0,.int .i64 a2.x1,.int .i64 a2.y1,.int .i64 a2.b,.int .i64 a2.l,.string (str a2.key),.slice vA2 vn2 vcap2]),(b1,57,#[.int .i64 a1.code,.int .i64 a1.n,.int .i64 a1.x0,.int .i64 a1.y0,.int .i64 a1.x1,.int .i64 a1.y1,.int .i64 a1.b,.int .i64 a1.l,.string (str a1.key),.slice vA1 vn1 vcap1])] [(.slice vA4 vn4 vcap4,a4.cells)] [(v2,(someL l 30 1000))] (w15.alloc (.cells #[.int .i64 a5.code,.int .i64 a5.n,.int .i64 a5.x0,.int .i64 a5.y0,.int .i64 a5.x1,.int .i64 a5.y1,.int .i64 a5.b,.int .i64 a5.l,.string (str a5.key),.slice vA5 vn5 vcap5] 57))):=hl5.drop.alloc _ _
  clear hd5 hl5 hz5 HD5 k5
  unfold ansV
  skip
  have HD6:Hid (Calls Tryz.prog 25 #[.pointer (some ⟨h,0,none⟩),.agg #[.int .i64 7,.string ⟨#[97,98]⟩,.string ⟨#[]⟩,.int .i64 0,.int .i64 0,.int .i64 0,.slice none 0 0]] (w15.alloc (.cells #[.int .i64 a5.code,.int .i64 a5.n,.int .i64 a5.x0,.int .i64 a5.y0,.int .i64 a5.x1,.int .i64 a5.y1,.int .i64 a5.b,.int .i64 a5.l,.string (str a5.key),.slice vA5 vn5 vcap5] 57)) (DoL W h p 9 77 R5 H5 wv5 kv5 [(w15.heap.size,57,#[.int .i64 a5.code,.int .i64 a5.n,.int .i64 a5.x0,.int .i64 a5.y0,.int .i64 a5.x1,.int .i64 a5.y1,.int .i64 a5.b,.int .i64 a5.l,.string (str a5.key),.slice vA5 vn5 vcap5]),(b4,57,#[.int .i64 a4.code,.int .i64 a4.n,.int .i64 a4.x0,.int .i64 a4.y0,.int .i64 a4.x1,.int .i64 a4.y1,.int .i64 a4.b,.int .i64 a4.l,.string (str a4.key),.slice vA4 vn4 vcap4]),(b3,57,#[.int .i64 a3.code,.int .i64 a3.n,.int .i64 a3.x0,.int .i64 a3.y0,.int .i64 a3.x1,.int .i64 a3.y1,.int .i64 a3.b,.int .i64 a3.l,.string (str a3.key),.slice vA3 vn3 vcap3]),(b2,57,#[.int .i64 a2.code,.int .i64 a2.n,.int .i64 a2.x0,.int .i64 a2.y0,.int .i64 a2.x1,.int .i64 a2.y1,.int .i64 a2.b,.int .i64 a2.l,.string (str a2.key),.slice vA2 vn2 vcap2]),(b1,57,#[.int .i64 a1.code,.int .i64 a1.n,.int .i64 a1.x0,.int .i64 a1.y0,.int .i64 a1.x1,.int .i64 a1.y1,.int .i64 a1.b,.int .i64 a1.l,.string (str a1.key),.slice vA1 vn1 vcap1])] [(.slice vA4 vn4 vcap4,a4.cells)] [(v2,(someL l 30 1000))] ⟨7,[97,98],[],0,0,0,[]⟩ (w15.alloc (.cells #[.int .i64 a5.code,.int .i64 a5.n,.int .i64 a5.x0,.int .i64 a5.y0,.int .i64 a5.x1,.int .i64 a5.y1,.int .i64 a5.b,.int .i64 a5.l,.string (str a5.key),.slice vA5 vn5 vcap5] 57)))):=HL5.out.do_nil ⟨7,[97,98],[],0,0,0,[]⟩ (by show (2:Nat)≤_;decide) (by show (0:Nat)≤_;decide) rfl (by show _≤(0:Int)∧(0:Int)≤_;decide) (fun h=>absurd h (by show ¬(7:Int)=9;decide)) (fun h=>absurd h (by show ¬(7:Int)=9;decide))
  go_wp2_with fail
  (with_reducible refine HD6.out.mono ?_)
  generalize hb5:w15.heap.size=b5 at*
  have HB5:=Lib.hid hb5
  clear hb5
  generalize World.alloc w15 _=w25 at*
  rintro e w16 ⟨a6,vA6,vn6,vcap6,H6,wv6,kv6,R6,rfl,hd6,hl6,hz6⟩
  have HR6:=Lib.hid hd6
  have HL6:Hid (LSt W h p 9 77 R6 H6 wv6 kv6 [(b5,57,#[.int .i64 a5.code,.int .i64 a5.n,.int .i64 a5.x0,.int .i64 a5.y0,.int .i64 a5.x1,.int .i64 a5.y1,.int .i64 a5.b,.int .i64 a5.l,.string (str a5.key),.slice vA5 vn5 vcap5]),(b4,57,#[.int .i64 a4.code,.int .i64 a4.n,.int .i64 a4.x0,.int .i64 a4.y0,.int .i64 a4.x1,.int .i64 a4.y1,.int .i64 a4.b,.int .i64 a4.l,.string (str a4.key),.slice vA4 vn4 vcap4]),(b3,57,#[.int .i64 a3.code,.int .i64 a3.n,.int .i64 a3.x0,.int .i64 a3.y0,.int .i64 a3.x1,.int .i64 a3.y1,.int .i64 a3.b,.int .i64 a3.l,.string (str a3.key),.slice vA3 vn3 vcap3]),(b2,57,#[.int .i64 a2.code,.int .i64 a2.n,.int .i64 a2.x0,.int .i64 a2.y0,.int .i64 a2.x1,.int .i64 a2.y1,.int .i64 a2.b,.int .i64 a2.l,.string (str a2.key),.slice vA2 vn2 vcap2]),(b1,57,#[.int .i64 a1.code,.int .i64 a1.n,.int .i64 a1.x0,.int .i64 a1.y0,.int .i64 a1.x1,.int .i64 a1.y1,.int .i64 a1.b,.int .i64 a1.l,.string (str a1.key),.slice vA1 vn1 vcap1])] [(.slice vA4 vn4 vcap4,a4.cells)] [(v2,(someL l 30 1000))] w16):=hl6.drop
  clear hd6 hl6 hz6 HD6
  unfold ansV
  have k7:(World.cell? w16 ⟨b2,8,none⟩)=some (.string (str a2.key)):=HL6.out.cell (b:=b2) (ty:=57) (cs:=#[.int .i64 a2.code,.int .i64 a2.n,.int .i64 a2.x0,.int .i64 a2.y0,.int .i64 a2.x1,.int .i64 a2.y1,.int .i64 a2.b,.int .i64 a2.l,.string (str a2.key),.slice vA2 vn2 vcap2]) (by simp) 8 rfl
  have HD7:Hid (Calls Tryz.prog 25 #[.pointer (some ⟨h,0,none⟩),.agg #[.int .i64 3,.string (str a2.key),.string ⟨#[]⟩,.int .i64 0,.int .i64 0,.int .i64 0,.slice none 0 0]] w16 (DoL W h p 9 77 R6 H6 wv6 kv6 [(b5,57,#[.int .i64 a5.code,.int .i64 a5.n,.int .i64 a5.x0,.int .i64 a5.y0,.int .i64 a5.x1,.int .i64 a5.y1,.int .i64 a5.b,.int .i64 a5.l,.string (str a5.key),.slice vA5 vn5 vcap5]),(b4,57,#[.int .i64 a4.code,.int .i64 a4.n,.int .i64 a4.x0,.int .i64 a4.y0,.int .i64 a4.x1,.int .i64 a4.y1,.int .i64 a4.b,.int .i64 a4.l,.string (str a4.key),.slice vA4 vn4 vcap4]),(b3,57,#[.int .i64 a3.code,.int .i64 a3.n,.int .i64 a3.x0,.int .i64 a3.y0,.int .i64 a3.x1,.int .i64 a3.y1,.int .i64 a3.b,.int .i64 a3.l,.string (str a3.key),.slice vA3 vn3 vcap3]),(b2,57,#[.int .i64 a2.code,.int .i64 a2.n,.int .i64 a2.x0,.int .i64 a2.y0,.int .i64 a2.x1,.int .i64 a2.y1,.int .i64 a2.b,.int .i64 a2.l,.string (str a2.key),.slice vA2 vn2 vcap2]),(b1,57,#[.int .i64 a1.code,.int .i64 a1.n,.int .i64 a1.x0,.int .i64 a1.y0,.int .i64 a1.x1,.int .i64 a1.y1,.int .i64 a1.b,.int .i64 a1.l,.string (str a1.key),.slice vA1 vn1 vcap1])] [(.slice vA4 vn4 vcap4,a4.cells)] [(v2,(someL l 30 1000))] ⟨3,a2.key,[],0,0,0,[]⟩ w16)):=HL6.out.do_nil ⟨3,a2.key,[],0,0,0,[]⟩ HKL.out (by show (0:Nat)≤_;decide) rfl (by show _≤(0:Int)∧(0:Int)≤_;decide) (fun h=>absurd h (by show ¬(3:Int)=9;decide)) (fun h=>absurd h (by show ¬(3:Int)=9;decide))
  go_wp2_with fail
  (with_reducible refine HD7.out.mono ?_)
  rintro e w17 ⟨a7,vA7,vn7,vcap7,H7,wv7,kv7,R7,rfl,hd7,hl7,hz7⟩
  have HR7:=Lib.hid hd7
  have HL7:Hid (LSt W h p 9 77 R7 H7 wv7 kv7 [(w17.heap.size,57,#[.int .i64 a7.code,.int .i64 a7.n,.int .i64 a7.x0,.int .i64 a7.y0,.int .i64 a7.x1,.int .i64 a7.y1,.int .i64 a7.b,.int .i64 a7.l,.string (str a7.key),.slice vA7 vn7 vcap7]),(b5,57,#[.int .i64 a5.code,.int .i64 a5.n,.int .i64 a5.x0,.int .i64 a5.y0,.int .i64 a5.x1,.int .i64 a5.y1,.int .i64 a5.b,.int .i64 a5.l,.string (str a5.key),.slice vA5 vn5 vcap5]),(b4,57,#[.int .i64 a4.code,.int .i64 a4.n,.int .i64 a4.x0,.int .i64 a4.y0,.int .i64 a4.x1,.int .i64 a4.y1,.int .i64 a4.b,.int .i64 a4.l,.string (str a4.key),.slice vA4 vn4 vcap4]),(b3,57,#[.int .i64 a3.code,.int .i64 a3.n,.int .i64 a3.x0,.int .i64 a3.y0,.int .i64 a3.x1,.int .i64 a3.y1,.int .i64 a3.b,.int .i64 a3.l,.string (str a3.key),.slice vA3 vn3 vcap3]),(b2,57,#[.int .i64 a2.code,.int .i64 a2.n,.int .i64 a2.x0,.int .i64 a2.y0,.int .i64 a2.x1,.int .i64 a2.y1,.int .i64 a2.b,.int .i64 a2.l,.string (str a2.key),.slice vA2 vn2 vcap2]),(b1,57,#[.int .i64 a1.code,.int .i64 a1.n,.int .i64 a1.x0,.int .i64 a1.y0,.int .i64 a1.x1,.int .i64 a1.y1,.int .i64 a1.b,.int .i64 a1.l,.string (str a1.key),.slice vA1 vn1 vcap1])] [(.slice vA4 vn4 vcap4,a4.cells)] [(v2,(someL l 30 1000))] (w17.alloc (.cells #[.int .i64 a7.code,.int .i64 a7.n,.int .i64 a7.x0,.int .i64 a7.y0,.int .i64 a7.x1,.int .i64 a7.y1,.int .i64 a7.b,.int .i64 a7.l,.string (str a7.key),.slice vA7 vn7 vcap7] 57))):=hl7.drop.alloc _ _
  clear hd7 hl7 hz7 HD7 k7
  unfold ansV
  have HLAW:Hid (LeasesSay r (someL l 30 1000) a1 a2 a3 a4 a5 a7):=leases_law HZ.out.2.1 HZ.out.2.2.1 HZ.out.2.2.2 HR0.out HRL1.out HRL2.out hr0 hr3 (by have:=HLL.out;omega) HOK.out HR1.out HR2.out HR3.out HR4.out HR5.out HR6.out HR7.out
  have HS4:Hid (Sees h p R7 wv7 [w17.heap.size,b5,b4,b3,b2,b1] (w17.alloc (.cells #[.int .i64 a7.code,.int .i64 a7.n,.int .i64 a7.x0,.int .i64 a7.y0,.int .i64 a7.x1,.int .i64 a7.y1,.int .i64 a7.b,.int .i64 a7.l,.string (str a7.key),.slice vA7 vn7 vcap7] 57)) (.slice vA4 vn4 vcap4) a4.cells):=HL7.out.rd _ List.mem_cons_self
  have HVN:Hid (vn4=a4.cells.length):=by
   obtain ⟨A,cap,hv,_⟩:=HS4.out.rd.form
   injection hv
  have HM7:Hid (MyCells h p R7 wv7 (w17.alloc (.cells #[.int .i64 a7.code,.int .i64 a7.n,.int .i64 a7.x0,.int .i64 a7.y0,.int .i64 a7.x1,.int .i64 a7.y1,.int .i64 a7.b,.int .i64 a7.l,.string (str a7.key),.slice vA7 vn7 vcap7] 57)) v2 (someL l 30 1000)):=(HL7.out.my _ List.mem_cons_self).1
  obtain ⟨l1,l2,l5,l7,l3⟩:=HLAW.out
  have m1:(World.cell? (w17.alloc (.cells #[.int .i64 a7.code,.int .i64 a7.n,.int .i64 a7.x0,.int .i64 a7.y0,.int .i64 a7.x1,.int .i64 a7.y1,.int .i64 a7.b,.int .i64 a7.l,.string (str a7.key),.slice vA7 vn7 vcap7] 57)) ⟨b1,0,none⟩)=some (.int .i64 0):=(HL7.out.cell (b:=b1) (ty:=57) (cs:=#[.int .i64 a1.code,.int .i64 a1.n,.int .i64 a1.x0,.int .i64 a1.y0,.int .i64 a1.x1,.int .i64 a1.y1,.int .i64 a1.b,.int .i64 a1.l,.string (str a1.key),.slice vA1 vn1 vcap1]) (by simp) 0 rfl).trans (congrArg (fun z=>some (Value.int .i64 z)) l1)
  have m2:(World.cell? (w17.alloc (.cells #[.int .i64 a7.code,.int .i64 a7.n,.int .i64 a7.x0,.int .i64 a7.y0,.int .i64 a7.x1,.int .i64 a7.y1,.int .i64 a7.b,.int .i64 a7.l,.string (str a7.key),.slice vA7 vn7 vcap7] 57)) ⟨b2,0,none⟩)=some (.int .i64 0):=(HL7.out.cell (b:=b2) (ty:=57) (cs:=#[.int .i64 a2.code,.int .i64 a2.n,.int .i64 a2.x0,.int .i64 a2.y0,.int .i64 a2.x1,.int .i64 a2.y1,.int .i64 a2.b,.int .i64 a2.l,.string (str a2.key),.slice vA2 vn2 vcap2]) (by simp) 0 rfl).trans (congrArg (fun z=>some (Value.int .i64 z)) l2)
  have m5:(World.cell? (w17.alloc (.cells #[.int .i64 a7.code,.int .i64 a7.n,.int .i64 a7.x0,.int .i64 a7.y0,.int .i64 a7.x1,.int .i64 a7.y1,.int .i64 a7.b,.int .i64 a7.l,.string (str a7.key),.slice vA7 vn7 vcap7] 57)) ⟨b5,0,none⟩)=some (.int .i64 10):=(HL7.out.cell (b:=b5) (ty:=57) (cs:=#[.int .i64 a5.code,.int .i64 a5.n,.int .i64 a5.x0,.int .i64 a5.y0,.int .i64 a5.x1,.int .i64 a5.y1,.int .i64 a5.b,.int .i64 a5.l,.string (str a5.key),.slice vA5 vn5 vcap5]) (by simp) 0 rfl).trans (congrArg (fun z=>some (Value.int .i64 z)) l5)
  have m7:(World.cell? (w17.alloc (.cells #[.int .i64 a7.code,.int .i64 a7.n,.int .i64 a7.x0,.int .i64 a7.y0,.int .i64 a7.x1,.int .i64 a7.y1,.int .i64 a7.b,.int .i64 a7.l,.string (str a7.key),.slice vA7 vn7 vcap7] 57)) ⟨w17.heap.size,0,none⟩)=some (.int .i64 6):=(HL7.out.cell (b:=w17.heap.size) (ty:=57) (cs:=#[.int .i64 a7.code,.int .i64 a7.n,.int .i64 a7.x0,.int .i64 a7.y0,.int .i64 a7.x1,.int .i64 a7.y1,.int .i64 a7.b,.int .i64 a7.l,.string (str a7.key),.slice vA7 vn7 vcap7]) (by simp) 0 rfl).trans (congrArg (fun z=>some (Value.int .i64 z)) l7)
  have hm9:(World.cell? (w17.alloc (.cells #[.int .i64 a7.code,.int .i64 a7.n,.int .i64 a7.x0,.int .i64 a7.y0,.int .i64 a7.x1,.int .i64 a7.y1,.int .i64 a7.b,.int .i64 a7.l,.string (str a7.key),.slice vA7 vn7 vcap7] 57)) ⟨b4,9,none⟩)=some (.slice vA4 vn4 vcap4):=HL7.out.cell (b:=b4) (ty:=57) (cs:=#[.int .i64 a4.code,.int .i64 a4.n,.int .i64 a4.x0,.int .i64 a4.y0,.int .i64 a4.x1,.int .i64 a4.y1,.int .i64 a4.b,.int .i64 a4.l,.string (str a4.key),.slice vA4 vn4 vcap4]) (by simp) 9 rfl
  have HTD:Hid (∀wx,Below (World.heap (w17.alloc (.cells #[.int .i64 a7.code,.int .i64 a7.n,.int .i64 a7.x0,.int .i64 a7.y0,.int .i64 a7.x1,.int .i64 a7.y1,.int .i64 a7.b,.int .i64 a7.l,.string (str a7.key),.slice vA7 vn7 vcap7] 57))).size (w17.alloc (.cells #[.int .i64 a7.code,.int .i64 a7.n,.int .i64 a7.x0,.int .i64 a7.y0,.int .i64 a7.x1,.int .i64 a7.y1,.int .i64 a7.b,.int .i64 a7.l,.string (str a7.key),.slice vA7 vn7 vcap7] 57)) wx→Calls Tryz.prog 30 #[v2] wx (TidyPost wx (someL l 30 1000))):=fun wx hb=>tidy_ok wx wx.heap.size _ v2 (someL l 30 1000) (HM7.out.below hb).rd (Nat.le_refl _) (by have:=HLL.out;omega) HOK.out
  have HBE:Hid (Below W.heap.size W (w17.alloc (.cells #[.int .i64 a7.code,.int .i64 a7.n,.int .i64 a7.x0,.int .i64 a7.y0,.int .i64 a7.x1,.int .i64 a7.y1,.int .i64 a7.b,.int .i64 a7.l,.string (str a7.key),.slice vA7 vn7 vcap7] 57))):=HL7.out.ha.bel
  clear l1 l2 l5 l7
  rcases l3 with ⟨hr,l3,l4,l6⟩ | ⟨hr,l3,l4⟩ | ⟨hr,l3,l4,l6⟩
  all_goals subst hr
  all_goals have m3:=(HL7.out.cell (b:=b3) (ty:=57) (cs:=#[.int .i64 a3.code,.int .i64 a3.n,.int .i64 a3.x0,.int .i64 a3.y0,.int .i64 a3.x1,.int .i64 a3.y1,.int .i64 a3.b,.int .i64 a3.l,.string (str a3.key),.slice vA3 vn3 vcap3]) (by simp) 0 rfl).trans (congrArg (fun z=>some (Value.int .i64 z)) l3)
  all_goals have m4:=(HL7.out.cell (b:=b4) (ty:=57) (cs:=#[.int .i64 a4.code,.int .i64 a4.n,.int .i64 a4.x0,.int .i64 a4.y0,.int .i64 a4.x1,.int .i64 a4.y1,.int .i64 a4.b,.int .i64 a4.l,.string (str a4.key),.slice vA4 vn4 vcap4]) (by simp) 0 rfl).trans (congrArg (fun z=>some (Value.int .i64 z)) l4)
  ·have HC:=Lib.hid l6
   have HC3:=Lib.hid l3
   have HC4:=Lib.hid l4
   clear l3 l4 l6
   go_wp2_with fail
   (refine (HTD.out _ (by first | exact Below.refl _ _ | exact (Below.refl _ _).drew)).mono ?_)
   rintro e w20 ⟨tA,tm,tl,rfl,htid,hts,htf,htb⟩
   have HL20:Hid (LSt W h p 9 77 R7 H7 wv7 kv7 [(w17.heap.size,57,#[.int .i64 a7.code,.int .i64 a7.n,.int .i64 a7.x0,.int .i64 a7.y0,.int .i64 a7.x1,.int .i64 a7.y1,.int .i64 a7.b,.int .i64 a7.l,.string (str a7.key),.slice vA7 vn7 vcap7]),(b5,57,#[.int .i64 a5.code,.int .i64 a5.n,.int .i64 a5.x0,.int .i64 a5.y0,.int .i64 a5.x1,.int .i64 a5.y1,.int .i64 a5.b,.int .i64 a5.l,.string (str a5.key),.slice vA5 vn5 vcap5]),(b4,57,#[.int .i64 a4.code,.int .i64 a4.n,.int .i64 a4.x0,.int .i64 a4.y0,.int .i64 a4.x1,.int .i64 a4.y1,.int .i64 a4.b,.int .i64 a4.l,.string (str a4.key),.slice vA4 vn4 vcap4]),(b3,57,#[.int .i64 a3.code,.int .i64 a3.n,.int .i64 a3.x0,.int .i64 a3.y0,.int .i64 a3.x1,.int .i64 a3.y1,.int .i64 a3.b,.int .i64 a3.l,.string (str a3.key),.slice vA3 vn3 vcap3]),(b2,57,#[.int .i64 a2.code,.int .i64 a2.n,.int .i64 a2.x0,.int .i64 a2.y0,.int .i64 a2.x1,.int .i64 a2.y1,.int .i64 a2.b,.int .i64 a2.l,.string (str a2.key),.slice vA2 vn2 vcap2]),(b1,57,#[.int .i64 a1.code,.int .i64 a1.n,.int .i64 a1.x0,.int .i64 a1.y0,.int .i64 a1.x1,.int .i64 a1.y1,.int .i64 a1.b,.int .i64 a1.l,.string (str a1.key),.slice vA1 vn1 vcap1])] [(.slice vA4 vn4 vcap4,a4.cells)] [(v2,(someL l 30 1000))] w20):=by first | exact HL7.out.below htb | exact (HL7.out.below (Below.refl _ _).drew).below htb
   have HTI:=Lib.hid htid
   have HTS:=Lib.hid hts
   have HB20:=Lib.hid HL20.out.ha.bel
   have n3:w20.cell? ⟨b3,0,none⟩=some (.int .i64 10):=(HL20.out.cell (b:=b3) (ty:=57) (cs:=#[.int .i64 a3.code,.int .i64 a3.n,.int .i64 a3.x0,.int .i64 a3.y0,.int .i64 a3.x1,.int .i64 a3.y1,.int .i64 a3.b,.int .i64 a3.l,.string (str a3.key),.slice vA3 vn3 vcap3]) (by simp) 0 rfl).trans (congrArg (fun z=>some (Value.int .i64 z)) HC3.out)
   have n4:w20.cell? ⟨b4,0,none⟩=some (.int .i64 0):=(HL20.out.cell (b:=b4) (ty:=57) (cs:=#[.int .i64 a4.code,.int .i64 a4.n,.int .i64 a4.x0,.int .i64 a4.y0,.int .i64 a4.x1,.int .i64 a4.y1,.int .i64 a4.b,.int .i64 a4.l,.string (str a4.key),.slice vA4 vn4 vcap4]) (by simp) 0 rfl).trans (congrArg (fun z=>some (Value.int .i64 z)) HC4.out)
   have n9:w20.cell? ⟨b4,9,none⟩=some (.slice vA4 vn4 vcap4):=HL20.out.cell (b:=b4) (ty:=57) (cs:=#[.int .i64 a4.code,.int .i64 a4.n,.int .i64 a4.x0,.int .i64 a4.y0,.int .i64 a4.x1,.int .i64 a4.y1,.int .i64 a4.b,.int .i64 a4.l,.string (str a4.key),.slice vA4 vn4 vcap4]) (by simp) 9 rfl
   clear htid hts htf htb HTD m1 m2 m3 m4 m5 m7 hm9
   obtain rfl:vn4=0:=by rw [HVN.out,HC.out];rfl
   go_wp2_with fail
   go_ret
   exact ⟨rfl,HB20.out⟩
  ·have HC3:=Lib.hid l3
   have HC4:=Lib.hid l4
   clear l3 l4
   go_wp2_with fail
   (refine (HTD.out _ (by first | exact Below.refl _ _ | exact (Below.refl _ _).drew)).mono ?_)
   rintro e w20 ⟨tA,tm,tl,rfl,htid,hts,htf,htb⟩
   have HL20:Hid (LSt W h p 9 77 R7 H7 wv7 kv7 [(w17.heap.size,57,#[.int .i64 a7.code,.int .i64 a7.n,.int .i64 a7.x0,.int .i64 a7.y0,.int .i64 a7.x1,.int .i64 a7.y1,.int .i64 a7.b,.int .i64 a7.l,.string (str a7.key),.slice vA7 vn7 vcap7]),(b5,57,#[.int .i64 a5.code,.int .i64 a5.n,.int .i64 a5.x0,.int .i64 a5.y0,.int .i64 a5.x1,.int .i64 a5.y1,.int .i64 a5.b,.int .i64 a5.l,.string (str a5.key),.slice vA5 vn5 vcap5]),(b4,57,#[.int .i64 a4.code,.int .i64 a4.n,.int .i64 a4.x0,.int .i64 a4.y0,.int .i64 a4.x1,.int .i64 a4.y1,.int .i64 a4.b,.int .i64 a4.l,.string (str a4.key),.slice vA4 vn4 vcap4]),(b3,57,#[.int .i64 a3.code,.int .i64 a3.n,.int .i64 a3.x0,.int .i64 a3.y0,.int .i64 a3.x1,.int .i64 a3.y1,.int .i64 a3.b,.int .i64 a3.l,.string (str a3.key),.slice vA3 vn3 vcap3]),(b2,57,#[.int .i64 a2.code,.int .i64 a2.n,.int .i64 a2.x0,.int .i64 a2.y0,.int .i64 a2.x1,.int .i64 a2.y1,.int .i64 a2.b,.int .i64 a2.l,.string (str a2.key),.slice vA2 vn2 vcap2]),(b1,57,#[.int .i64 a1.code,.int .i64 a1.n,.int .i64 a1.x0,.int .i64 a1.y0,.int .i64 a1.x1,.int .i64 a1.y1,.int .i64 a1.b,.int .i64 a1.l,.string (str a1.key),.slice vA1 vn1 vcap1])] [(.slice vA4 vn4 vcap4,a4.cells)] [(v2,(someL l 30 1000))] w20):=by first | exact HL7.out.below htb | exact (HL7.out.below (Below.refl _ _).drew).below htb
   have HTI:=Lib.hid htid
   have HTS:=Lib.hid hts
   have HB20:=Lib.hid HL20.out.ha.bel
   have n3:w20.cell? ⟨b3,0,none⟩=some (.int .i64 0):=(HL20.out.cell (b:=b3) (ty:=57) (cs:=#[.int .i64 a3.code,.int .i64 a3.n,.int .i64 a3.x0,.int .i64 a3.y0,.int .i64 a3.x1,.int .i64 a3.y1,.int .i64 a3.b,.int .i64 a3.l,.string (str a3.key),.slice vA3 vn3 vcap3]) (by simp) 0 rfl).trans (congrArg (fun z=>some (Value.int .i64 z)) HC3.out)
   have n4:w20.cell? ⟨b4,0,none⟩=some (.int .i64 10):=(HL20.out.cell (b:=b4) (ty:=57) (cs:=#[.int .i64 a4.code,.int .i64 a4.n,.int .i64 a4.x0,.int .i64 a4.y0,.int .i64 a4.x1,.int .i64 a4.y1,.int .i64 a4.b,.int .i64 a4.l,.string (str a4.key),.slice vA4 vn4 vcap4]) (by simp) 0 rfl).trans (congrArg (fun z=>some (Value.int .i64 z)) HC4.out)
   have n9:w20.cell? ⟨b4,9,none⟩=some (.slice vA4 vn4 vcap4):=HL20.out.cell (b:=b4) (ty:=57) (cs:=#[.int .i64 a4.code,.int .i64 a4.n,.int .i64 a4.x0,.int .i64 a4.y0,.int .i64 a4.x1,.int .i64 a4.y1,.int .i64 a4.b,.int .i64 a4.l,.string (str a4.key),.slice vA4 vn4 vcap4]) (by simp) 9 rfl
   clear htid hts htf htb HTD m1 m2 m3 m4 m5 m7 hm9
   go_wp2_with fail
   go_ret
   exact ⟨rfl,HB20.out⟩
  ·have HC:=Lib.hid l6
   have HC3:=Lib.hid l3
   have HC4:=Lib.hid l4
   clear l3 l4 l6
   go_wp2_with fail
   (refine (HTD.out _ (by first | exact Below.refl _ _ | exact (Below.refl _ _).drew)).mono ?_)
   rintro e w20 ⟨tA,tm,tl,rfl,htid,hts,htf,htb⟩
   have HL20:Hid (LSt W h p 9 77 R7 H7 wv7 kv7 [(w17.heap.size,57,#[.int .i64 a7.code,.int .i64 a7.n,.int .i64 a7.x0,.int .i64 a7.y0,.int .i64 a7.x1,.int .i64 a7.y1,.int .i64 a7.b,.int .i64 a7.l,.string (str a7.key),.slice vA7 vn7 vcap7]),(b5,57,#[.int .i64 a5.code,.int .i64 a5.n,.int .i64 a5.x0,.int .i64 a5.y0,.int .i64 a5.x1,.int .i64 a5.y1,.int .i64 a5.b,.int .i64 a5.l,.string (str a5.key),.slice vA5 vn5 vcap5]),(b4,57,#[.int .i64 a4.code,.int .i64 a4.n,.int .i64 a4.x0,.int .i64 a4.y0,.int .i64 a4.x1,.int .i64 a4.y1,.int .i64 a4.b,.int .i64 a4.l,.string (str a4.key),.slice vA4 vn4 vcap4]),(b3,57,#[.int .i64 a3.code,.int .i64 a3.n,.int .i64 a3.x0,.int .i64 a3.y0,.int .i64 a3.x1,.int .i64 a3.y1,.int .i64 a3.b,.int .i64 a3.l,.string (str a3.key),.slice vA3 vn3 vcap3]),(b2,57,#[.int .i64 a2.code,.int .i64 a2.n,.int .i64 a2.x0,.int .i64 a2.y0,.int .i64 a2.x1,.int .i64 a2.y1,.int .i64 a2.b,.int .i64 a2.l,.string (str a2.key),.slice vA2 vn2 vcap2]),(b1,57,#[.int .i64 a1.code,.int .i64 a1.n,.int .i64 a1.x0,.int .i64 a1.y0,.int .i64 a1.x1,.int .i64 a1.y1,.int .i64 a1.b,.int .i64 a1.l,.string (str a1.key),.slice vA1 vn1 vcap1])] [(.slice vA4 vn4 vcap4,a4.cells)] [(v2,(someL l 30 1000))] w20):=by first | exact HL7.out.below htb | exact (HL7.out.below (Below.refl _ _).drew).below htb
   have HTI:=Lib.hid htid
   have HTS:=Lib.hid hts
   have HB20:=Lib.hid HL20.out.ha.bel
   have n3:w20.cell? ⟨b3,0,none⟩=some (.int .i64 0):=(HL20.out.cell (b:=b3) (ty:=57) (cs:=#[.int .i64 a3.code,.int .i64 a3.n,.int .i64 a3.x0,.int .i64 a3.y0,.int .i64 a3.x1,.int .i64 a3.y1,.int .i64 a3.b,.int .i64 a3.l,.string (str a3.key),.slice vA3 vn3 vcap3]) (by simp) 0 rfl).trans (congrArg (fun z=>some (Value.int .i64 z)) HC3.out)
   have n4:w20.cell? ⟨b4,0,none⟩=some (.int .i64 0):=(HL20.out.cell (b:=b4) (ty:=57) (cs:=#[.int .i64 a4.code,.int .i64 a4.n,.int .i64 a4.x0,.int .i64 a4.y0,.int .i64 a4.x1,.int .i64 a4.y1,.int .i64 a4.b,.int .i64 a4.l,.string (str a4.key),.slice vA4 vn4 vcap4]) (by simp) 0 rfl).trans (congrArg (fun z=>some (Value.int .i64 z)) HC4.out)
   have n9:w20.cell? ⟨b4,9,none⟩=some (.slice vA4 vn4 vcap4):=HL20.out.cell (b:=b4) (ty:=57) (cs:=#[.int .i64 a4.code,.int .i64 a4.n,.int .i64 a4.x0,.int .i64 a4.y0,.int .i64 a4.x1,.int .i64 a4.y1,.int .i64 a4.b,.int .i64 a4.l,.string (str a4.key),.slice vA4 vn4 vcap4]) (by simp) 9 rfl
   clear htid hts htf htb HTD m1 m2 m3 m4 m5 m7 hm9
   have HSM:Hid (Calls Tryz.prog 31 #[.slice vA4 vn4 vcap4,.slice tA tm tm] w20 (SamePost w20)):=by
    obtain rfl:tl=a4.cells:=HTI.out.unique HC.out
    have htm:a4.cells.length=tm:=HTS.out.rd.pairs.1
    have hvn:=HVN.out
    subst htm
    subst hvn
    exact same_true w20 _ _ a4.cells.length _ _ a4.cells (HL20.out.rd _ List.mem_cons_self).rd HTS.out.rd
   go_wp2_with fail
   (with_reducible refine HSM.out.mono ?_)
   rintro e w21 ⟨rfl,dn,rfl⟩
   go_wp2_with fail
   go_ret
   exact ⟨rfl,below_drewL HB20.out dn⟩
end Go.Proofs.YthohnjgnpapnoaaGreatDoor
