/- quad: edge. · quad: Box. · leap: Steps. -/
import Derived.Test.YthohnjgnpapnoaaGreatDoorR22
import Derived.Test.YthohnjgnpapnoaaGreatDoorR20
import Derived.Test.YthohnjgnpapnoaaGreatDoorR19
set_option linter.unusedVariables false
set_option linter.unusedSimpArgs false
namespace Go.Proofs.YthohnjgnpapnoaaGreatDoor
open Go.RowKit
structure E4 (w:World) (wb eb s n:Nat) (w4:World):Prop where
 cw:Blk w4 w.heap.size 232 #[.pointer (some ⟨wb,0,none⟩)]
 cl:Blk w4 (w.heap.size+1) 3 #[.int .i64 ((n:Int)+1)]
 cs:Blk w4 (w.heap.size+1+1) 3 #[.int .i64 s]
 cm:Blk w4 (w.heap.size+1+1+1) 234 #[.map (some eb)]
theorem e4_bel (w:World) (wb eb s n:Nat):Below w.heap.size w ((((w.alloc (.cells #[.pointer (some ⟨wb,0,none⟩)] 232)).alloc (.cells #[.int .i64 ((n:Int)+1)] 3)).alloc (.cells #[.int .i64 s] 3)).alloc (.cells #[.map (some eb)] 234)):=((((Below.refl _ _).alloc (Nat.le_refl _) _).alloc (by simp) _).alloc (by simp;omega) _).alloc (by simp;omega) _
theorem e4_new (w:World) (wb eb s n:Nat):E4 w wb eb s n ((((w.alloc (.cells #[.pointer (some ⟨wb,0,none⟩)] 232)).alloc (.cells #[.int .i64 ((n:Int)+1)] 3)).alloc (.cells #[.int .i64 s] 3)).alloc (.cells #[.map (some eb)] 234)):=by
 have h0:=Blk.new w 232 #[.pointer (some ⟨wb,0,none⟩)]
 have h1:=Blk.new (w.alloc (.cells #[.pointer (some ⟨wb,0,none⟩)] 232)) 3 #[.int .i64 ((n:Int)+1)]
 have h2:=Blk.new ((w.alloc (.cells #[.pointer (some ⟨wb,0,none⟩)] 232)).alloc (.cells #[.int .i64 ((n:Int)+1)] 3)) 3 #[.int .i64 s]
 have h3:=Blk.new (((w.alloc (.cells #[.pointer (some ⟨wb,0,none⟩)] 232)).alloc (.cells #[.int .i64 ((n:Int)+1)] 3)).alloc (.cells #[.int .i64 s] 3)) 234 #[.map (some eb)]
 simp only [World.size_alloc] at h1 h2 h3
 exact ⟨((h0.alloc _).alloc _).alloc _,(h1.alloc _).alloc _,h2.alloc _,h3⟩
structure E6 (w:World) (wb eb s n:Nat) (w6:World):Prop where
 e4:E4 w wb eb s n w6
 cn:Blk w6 (w.heap.size+1+1+1+1) 275 #[.int .i64 (nearK s 0:Nat),.int .i64 (nearK s 1:Nat)]
 cf:Blk w6 (w.heap.size+1+1+1+1+1) 275 #[.int .i64 (farK s 0:Nat),.int .i64 (farK s 1:Nat)]
theorem E4.below {w w4 w5:World} {wb eb s n:Nat} (h:E4 w wb eb s n w4) (hb:Below w4.heap.size w4 w5):E4 w wb eb s n w5:=
 ⟨h.cw.mod (Mod.of_below_all hb) id,h.cl.mod (Mod.of_below_all hb) id,h.cs.mod (Mod.of_below_all hb) id,h.cm.mod (Mod.of_below_all hb) id⟩
theorem e6_bel (w:World) (wb eb s n:Nat):Below w.heap.size w ((((((w.alloc (.cells #[.pointer (some ⟨wb,0,none⟩)] 232)).alloc (.cells #[.int .i64 ((n:Int)+1)] 3)).alloc (.cells #[.int .i64 s] 3)).alloc (.cells #[.map (some eb)] 234)).alloc (.cells #[.int .i64 (nearK s 0:Nat),.int .i64 (nearK s 1:Nat)] 275)).alloc (.cells #[.int .i64 (farK s 0:Nat),.int .i64 (farK s 1:Nat)] 275)):=((e4_bel w wb eb s n).alloc (e4_bel w wb eb s n).size _).alloc (by have:=(e4_bel w wb eb s n).size;rw [World.size_alloc];omega) _
theorem e6_new (w:World) (wb eb s n:Nat):E6 w wb eb s n ((((((w.alloc (.cells #[.pointer (some ⟨wb,0,none⟩)] 232)).alloc (.cells #[.int .i64 ((n:Int)+1)] 3)).alloc (.cells #[.int .i64 s] 3)).alloc (.cells #[.map (some eb)] 234)).alloc (.cells #[.int .i64 (nearK s 0:Nat),.int .i64 (nearK s 1:Nat)] 275)).alloc (.cells #[.int .i64 (farK s 0:Nat),.int .i64 (farK s 1:Nat)] 275)):=by
 have h4:=e4_new w wb eb s n
 have h5:=Blk.new ((((w.alloc (.cells #[.pointer (some ⟨wb,0,none⟩)] 232)).alloc (.cells #[.int .i64 ((n:Int)+1)] 3)).alloc (.cells #[.int .i64 s] 3)).alloc (.cells #[.map (some eb)] 234)) 275 #[.int .i64 (nearK s 0:Nat),.int .i64 (nearK s 1:Nat)]
 have h6:=Blk.new (((((w.alloc (.cells #[.pointer (some ⟨wb,0,none⟩)] 232)).alloc (.cells #[.int .i64 ((n:Int)+1)] 3)).alloc (.cells #[.int .i64 s] 3)).alloc (.cells #[.map (some eb)] 234)).alloc (.cells #[.int .i64 (nearK s 0:Nat),.int .i64 (nearK s 1:Nat)] 275)) 275 #[.int .i64 (farK s 0:Nat),.int .i64 (farK s 1:Nat)]
 simp only [World.size_alloc] at h5 h6
 exact ⟨(h4.below ((Below.refl _ _).alloc (Nat.le_refl _) _)).below ((Below.refl _ _).alloc (Nat.le_refl _) _),h5.alloc _,h6⟩
section
variable {w w6 w7 : World} {wb mb eb p t s n : Nat} {R : ArR} {S : ArS} {A : Nat → Abs} {K K' : List Int} {m m' : Int → Int} {K2 K2' : List Int} {m2 m2' : Int → Int}
theorem e6_step (h:Eg w wb mb eb p R S A t s K m K2 m2) (h6:E6 w wb eb s n w6) (hs:StepH (fun b=>b=wb) p R R w6 w7):E6 w wb eb s n w7:=by
 have hlt:=h.wk.hd.blk.lt
 have no:∀z,w.heap.size≤z→¬(Own p R z∨z=wb):=fun z hz ho=>by
  rcases ho with ho | ho
  ·have:=h.wk.hd.arm.own_lt ho;omega
  ·omega
 refine ⟨⟨h6.e4.cw.mod hs.mod (no _ (Nat.le_refl _)),h6.e4.cl.mod hs.mod (no _ (by omega)),h6.e4.cs.mod hs.mod (no _ (by omega)),h6.e4.cm.mod hs.mod (no _ (by omega))⟩,h6.cn.mod hs.mod (no _ (by omega)),h6.cf.mod hs.mod (no _ (by omega))⟩
end
def ebOf (w w7:World):EB:=⟨w.heap.size,w.heap.size,w7.heap.size,w.heap.size+1,w.heap.size+1+1,w.heap.size+1+1+1,w7.heap.size+1+1,w7.heap.size+1⟩
theorem ec_start {w w7:World} {wb mb eb p t s n:Nat} {R:ArR} {S:ArS} {A:Nat→Abs} {K K':List Int} {m m':Int→Int} {K2 K2':List Int} {m2 m2':Int→Int} (h0:Eg w wb mb eb p R S A t s K' m' K2' m2') (h6:E6 w wb eb s n w7) (h:Eg w7 wb mb eb p R S A t s K m K2 m2) (Q:Nat→Int):
 Ec (((w7.alloc (.cells #[.int .i64 (Q 0),.int .i64 (Q 1),.int .i64 (Q 2),.int .i64 (Q 3)] 22)).alloc (.cells #[.int .i64 0] 3)).alloc (.cells #[.bool false] 4)) wb mb eb (ebOf w w7) p R S A t s n Q (0,false) K m K2 m2∧Blk (((w7.alloc (.cells #[.int .i64 (Q 0),.int .i64 (Q 1),.int .i64 (Q 2),.int .i64 (Q 3)] 22)).alloc (.cells #[.int .i64 0] 3)).alloc (.cells #[.bool false] 4)) (w.heap.size+1+1+1+1) 275 #[.int .i64 (nearK s 0:Nat),.int .i64 (nearK s 1:Nat)]∧Blk (((w7.alloc (.cells #[.int .i64 (Q 0),.int .i64 (Q 1),.int .i64 (Q 2),.int .i64 (Q 3)] 22)).alloc (.cells #[.int .i64 0] 3)).alloc (.cells #[.bool false] 4)) (w.heap.size+1+1+1+1+1) 275 #[.int .i64 (farK s 0:Nat),.int .i64 (farK s 1:Nat)]∧Below w7.heap.size w7 (((w7.alloc (.cells #[.int .i64 (Q 0),.int .i64 (Q 1),.int .i64 (Q 2),.int .i64 (Q 3)] 22)).alloc (.cells #[.int .i64 0] 3)).alloc (.cells #[.bool false] 4)):=by
 have hlt:=h6.cf.lt
 have b1:=Blk.new w7 22 #[.int .i64 (Q 0),.int .i64 (Q 1),.int .i64 (Q 2),.int .i64 (Q 3)]
 have b2:=Blk.new (w7.alloc (.cells #[.int .i64 (Q 0),.int .i64 (Q 1),.int .i64 (Q 2),.int .i64 (Q 3)] 22)) 3 #[.int .i64 0]
 have b3:=Blk.new ((w7.alloc (.cells #[.int .i64 (Q 0),.int .i64 (Q 1),.int .i64 (Q 2),.int .i64 (Q 3)] 22)).alloc (.cells #[.int .i64 0] 3)) 4 #[.bool false]
 simp only [World.size_alloc] at b2 b3
 have hb:Below w7.heap.size w7 (((w7.alloc (.cells #[.int .i64 (Q 0),.int .i64 (Q 1),.int .i64 (Q 2),.int .i64 (Q 3)] 22)).alloc (.cells #[.int .i64 0] 3)).alloc (.cells #[.bool false] 4)):=(((Below.refl _ _).alloc (Nat.le_refl _) _).alloc (by simp) _).alloc (by simp;omega) _
 have h1:=h0.wk.hd.blk.lt
 have h2:=h0.wk.map.lt
 have h3:=h0.map.lt
 refine ⟨⟨h.below hb,⟨⟨Nat.le_refl _,?_,?_,?_,?_,?_,?_⟩,⟨h1,h2,h3⟩,fun b hb=>h0.wk.hd.arm.own_lt hb,⟨?_,?_,?_,?_,?_,?_⟩,⟨?_,?_,?_,?_,?_⟩⟩,h6.e4.cw.mod (Mod.of_below_all hb) id,(b1.alloc _).alloc _,h6.e4.cl.mod (Mod.of_below_all hb) id,h6.e4.cs.mod (Mod.of_below_all hb) id,h6.e4.cm.mod (Mod.of_below_all hb) id,b3,b2.alloc _⟩,h6.cn.mod (Mod.of_below_all hb) id,h6.cf.mod (Mod.of_below_all hb) id,hb⟩
 all_goals (simp only [ebOf];omega)
theorem enters_look:∀args w,(callFunc 192 args).run Tryz.prog w= .ok (.enter 192 args) w:=enters_of Tryz.func192 (by kernel_rfl) rfl
theorem idx_near {s:Nat} (hs:s<4) (w:World):(Instr.index 276 (.agg #[.int .i64 0,.int .i64 1,.int .i64 2,.int .i64 3,.int .i64 0,.int .i64 2,.int .i64 1,.int .i64 3]) (.int .i64 s)).run Tryz.prog w= .ok (.agg #[.int .i64 (nearK s 0:Nat),.int .i64 (nearK s 1:Nat)]) w:=by
 rcases (by omega:s=0∨s=1∨s=2∨s=3) with rfl | rfl | rfl | rfl<;>kernel_rfl
theorem idx_far {s:Nat} (hs:s<4) (w:World):(Instr.index 276 (.agg #[.int .i64 2,.int .i64 3,.int .i64 0,.int .i64 1,.int .i64 1,.int .i64 3,.int .i64 0,.int .i64 2]) (.int .i64 s)).run Tryz.prog w= .ok (.agg #[.int .i64 (farK s 0:Nat),.int .i64 (farK s 1:Nat)]) w:=by
 rcases (by omega:s=0∨s=1∨s=2∨s=3) with rfl | rfl | rfl | rfl<;>kernel_rfl
set_option maxRecDepth 100000 in
set_option maxHeartbeats 3200000 in
theorem edge_more (s n:Nat) (hs:s<4) (hn:n+1≤44) (ih:EgOk s n):EgOk s (n+1):=by
 intro w wb mb eb p R S A t K m K2 m2 h id T hl hT
 have H:=Lib.hid h
 have HT:=Lib.hid hT
 have HL:=Lib.hid hl
 have hn0:((n:Int)+1==0)=false:=by simp;omega
 have hn1:(n:Int)+1≤44:=by omega
 have h4:=e4_new w wb eb s n
 have H4:=Lib.hid h4
 have HE4:=Lib.hid (h.below (e4_bel w wb eb s n))
 have hlk:=(h.below (e4_bel w wb eb s n)).map.look_ok (hT.1.i64 h.wk.hd.inv)
 rw [show ((n+1:Nat):Int)=(n:Int)+1 by omega]
 by_cases hk:id∈K2
 ·rw [decide_eq_true hk] at hlk
  have HV:Hid (m2 id=edgeT s (n+1) T):=h.known hk hT hl
  have HS4:Hid (StepH (EdX wb mb eb) p R R w ((((w.alloc (.cells #[.pointer (some ⟨wb,0,none⟩)] 232)).alloc (.cells #[.int .i64 ((n:Int)+1)] 3)).alloc (.cells #[.int .i64 s] 3)).alloc (.cells #[.map (some eb)] 234))):=StepH.of_below (e4_bel w wb eb s n)
  clear h hT hl h4 hk
  go_enter Tryz.func160,Tryz.ntmps160
  go_wp2_with fail
  go_returns
  exact ⟨K,m,K2,m2,by rw [←HV.out];rfl,HE4.out,HS4.out⟩
 ·rw [decide_eq_false hk] at hlk
  have HNK:=Lib.hid hk
  have hin:=idx_near hs
  have hif:=idx_far hs
  have HS:=Lib.hid hs
  have IH:=Lib.hid ih
  obtain ⟨a,b,c,d,rfl⟩:∃a b c d,T= .node a b c d:=⟨_,_,_,_,hl.eta⟩
  have H6:=Lib.hid (e6_new w wb eb s n)
  have HE6:=Lib.hid (h.below (e6_bel w wb eb s n))
  have HS6:Hid (StepH (EdX wb mb eb) p R R w ((((((w.alloc (.cells #[.pointer (some ⟨wb,0,none⟩)] 232)).alloc (.cells #[.int .i64 ((n:Int)+1)] 3)).alloc (.cells #[.int .i64 s] 3)).alloc (.cells #[.map (some eb)] 234)).alloc (.cells #[.int .i64 (nearK s 0:Nat),.int .i64 (nearK s 1:Nat)] 275)).alloc (.cells #[.int .i64 (farK s 0:Nat),.int .i64 (farK s 1:Nat)] 275))):=StepH.of_below (e6_bel w wb eb s n)
  have HKD:=Lib.hid (hkids_any _ wb WT [.map (some mb)] p R S A t 0 HE6.out.wk.hd id _ _ _ _ (fun _=>hT))
  have c0:=h4.cw.cellS (i:=0) rfl
  clear h hT hl h4 hk hs ih
  go_enter Tryz.func160,Tryz.ntmps160
  go_wp2_with fail
  (with_reducible refine HKD.out.mono ?_)
  rintro e w7 ⟨k0,k1,k2,k3,rfl,hkh,_,hd7,hs7⟩
  clear c0 hlk hin hif HKD
  generalize World.alloc _ _=w6 at*
  have H7:=Lib.hid (e6_step H.out H6.out hs7)
  have HE7:=Lib.hid (HE6.out.walk (HE6.out.wk.hand hd7 hs7 (St.refl HE6.out.wk.hd.rel t)) (hs7.wide fun b _ e=> .inl e))
  have HS7:Hid (StepH (EdX wb mb eb) p R R w w7):=HS6.out.trans (hs7.wide fun b _ e=> .inl (.inl e))
  obtain ⟨Q,rfl,rfl,rfl,rfl⟩:=four_fn k0 k1 k2 k3
  have HU:Hid (∀j,j<4→Has S A t (Q j) ((Tree.node a b c d).kid j)∧Pf n ((Tree.node a b c d).kid j)):=fun j hj=>by
   obtain ⟨g0,g1,g2,g3⟩:=hkh rfl
   have hpk:=HL.out.kid j
   rcases four_cases hj with rfl | rfl | rfl | rfl
   ·exact ⟨g0,hpk⟩
   ·exact ⟨g1,hpk⟩
   ·exact ⟨g2,hpk⟩
   ·exact ⟨g3,hpk⟩
  have hEC:=ec_start H.out H7.out HE7.out Q
  have HEC:=Lib.hid hEC.1
  have HB10:=Lib.hid hEC.2.2.2
  have n0:=hEC.2.1.cellS (i:=0) rfl
  have n1:=hEC.2.1.cellS (i:=1) rfl
  have HNB:=Lib.hid hEC.2.1
  have HFB:=Lib.hid hEC.2.2.1
  have HEN:=enters_look
  have HKN:Hid (∀j,j<2→nearK s j<4∧farK s j<4):=fun j hj=>by
   have:=HS.out
   unfold nearK farK
   refine ⟨?_,?_⟩<;>split<;>(try split)<;>(try split)<;>omega
  have hl1:=look_any s n HS.out (by omega) IH.out _ wb mb eb (ebOf w w7) p R S A t Q (0,false) K m K2 m2 HEC.out (fun j=>(Tree.node a b c d).kid j) HU.out (nearK s 0) (nearK s 1) (HKN.out 0 (by decide)).1 (HKN.out 1 (by decide)).1 0 ⟨Int.le_refl _,by decide⟩
  have HS10:Hid (StepH (EdX wb mb eb) p R R w _):=HS7.out.trans (StepH.of_below HB10.out)
  have HFL:=Lib.hid (fun (w11:World) (B:EB) (hb1:w.heap.size≤B.fc) (hb2:w.heap.size≤B.bc) (hs:StepH (LX wb mb eb B) p R R w w11)=>(hs.wide fun b hlt e=>by
   rcases e with e | e | e
   ·exact e
   ·omega
   ·omega:StepH (EdX wb mb eb) p R R w w11))
  have hpn:(2:Int)^n≤8796093022208:=by
   have h1:=Nat.pow_le_pow_right (n:=2) (by decide) (show n≤43 by omega)
   have h2:((2^n:Nat):Int)≤((2^43:Nat):Int):=Int.ofNat_le.2 h1
   rw [show (2:Nat)^43=8796093022208 by decide] at h2
   simpa using h2
  have hp0:=pow_pos2 n
  have HP:=Lib.hid (And.intro hp0 hpn)
  simp only [ebOf] at hl1
  have HL1:=Lib.hid hl1
  clear hkh hd7 hs7 H6 HE6 HS6 hEC hl1 hp0 hpn
  go_wp2_with fail
  (with_reducible refine HL1.out.mono ?_)
  intro e w11 hq
  obtain ⟨K3,m3,K4,m4,rfl,hC11,hS11⟩:=hq
  have HC11:=Lib.hid hC11
  have HS11:=Lib.hid (HFL.out w11 (ebOf w w7) (by have:=H7.out.cf.lt;simp only [ebOf];omega) (by have:=H7.out.cf.lt;simp only [ebOf];omega) ((HS10.out.wide fun b _ e=> .inl e).trans hS11))
  have HN11:Hid (Blk w11 (w.heap.size+1+1+1+1+1) 275 #[.int .i64 (farK s 0:Nat),.int .i64 (farK s 1:Nat)]):=HFB.out.mod hS11.mod fun ho=>by
   have h1:=H7.out.cf.lt
   rcases ho with ho | ho | ho | ho
   ·exact HEC.out.ok.far (z:=w.heap.size+1+1+1+1+1) (by simp only [ebOf];omega) (.inl ho)
   ·exact HEC.out.ok.far (z:=w.heap.size+1+1+1+1+1) (by simp only [ebOf];omega) (.inr ho)
   ·simp only [ebOf] at ho;omega
   ·simp only [ebOf] at ho;omega
  have HLT7:Hid (w.heap.size+1+1+1+1+1<w7.heap.size):=H7.out.cf.lt
  clear hC11 hS11 n0 n1 HL1 HNB HFB
  have c11:w11.cell? ⟨w7.heap.size+1+1,0,none⟩=some (.bool (look2 s n 0 (fun j=>(Tree.node a b c d).kid j) (nearK s 0) (nearK s 1) (0,false) 2).2):=HC11.out.cf.cellS rfl
  have cb11:w11.cell? ⟨w7.heap.size+1,0,none⟩=some (.int .i64 (look2 s n 0 (fun j=>(Tree.node a b c d).kid j) (nearK s 0) (nearK s 1) (0,false) 2).1):=HC11.out.cb.cellS rfl
  have cm11:w11.cell? ⟨w.heap.size+1+1+1,0,none⟩=some (.map (some eb)):=HC11.out.cm.cellS rfl
  have cl11:w11.cell? ⟨w.heap.size+1,0,none⟩=some (.int .i64 ((n:Int)+1)):=HC11.out.cl.cellS rfl
  have HED:Hid (edgeT s (n+1) (.node a b c d)=if (look2 s n 0 (fun j=>(Tree.node a b c d).kid j) (nearK s 0) (nearK s 1) (0,false) 2).2 then (look2 s n 0 (fun j=>(Tree.node a b c d).kid j) (nearK s 0) (nearK s 1) (0,false) 2).1 else (look2 s n (2^n) (fun j=>(Tree.node a b c d).kid j) (farK s 0) (farK s 1) (look2 s n 0 (fun j=>(Tree.node a b c d).kid j) (nearK s 0) (nearK s 1) (0,false) 2) 2).1):=rfl
  generalize hst:look2 s n 0 (fun j=>(Tree.node a b c d).kid j) (nearK s 0) (nearK s 1) (0,false) 2=st at*
  clear hst
  obtain ⟨sb,sf⟩:=st
  dsimp only at c11 cb11
  cases sf
  ·have HV:Hid (edgeT s (n+1) (.node a b c d)=(look2 s n (2^n) (fun j=>(Tree.node a b c d).kid j) (farK s 0) (farK s 1) (sb,false) 2).1):=HED.out
   have hl2:=look_any s n HS.out (by omega) IH.out w11 wb mb eb (ebOf w w7) p R S A t Q (sb,false) K3 m3 K4 m4 HC11.out (fun j=>(Tree.node a b c d).kid j) HU.out (farK s 0) (farK s 1) (HKN.out 0 (by decide)).2 (HKN.out 1 (by decide)).2 (2^n) ⟨by have:=HP.out.1;omega,by have:=HP.out.2;omega⟩
   simp only [ebOf] at hl2
   have HL2:=Lib.hid hl2
   have hp0:=HP.out.1
   have hpn:=HP.out.2
   have n0:=HN11.out.cellS (i:=0) rfl
   have n1:=HN11.out.cellS (i:=1) rfl
   have hpn62:(2:Int)^n≤2305843009213693952:=by omega
   have hn1':(n:Int)+1-1=(n:Int):=by omega
   have hn63:(n:Int)≤43:=by omega
   clear hl2 HED
   go_wp2_with fail
   (with_reducible refine HL2.out.mono ?_)
   intro e w12 hq
   obtain ⟨K5,m5,K6,m6,rfl,hC12,hS12⟩:=hq
   have HC12:=Lib.hid hC12
   have HS12:=Lib.hid (HFL.out w12 (ebOf w w7) (by have:=HLT7.out;simp only [ebOf];omega) (by have:=HLT7.out;simp only [ebOf];omega) ((HS11.out.wide fun b _ e=> .inl e).trans hS12))
   obtain ⟨v,hv⟩:∃v,v=(look2 s n (2^n) (fun j=>(Tree.node a b c d).kid j) (farK s 0) (farK s 1) (sb,false) 2).1:=⟨_,rfl⟩
   have cb12:w12.cell? ⟨w7.heap.size+1,0,none⟩=some (.int .i64 v):=by rw [hv];exact HC12.out.cb.cellS rfl
   have cm12:w12.cell? ⟨w.heap.size+1+1+1,0,none⟩=some (.map (some eb)):=HC12.out.cm.cellS rfl
   rw [←hv] at HV
   obtain ⟨w13,hrun,he13,hs13⟩:=HC12.out.eg.put HT.out HL.out (by omega)
   rw [HV.out] at hrun
   have HC13:=Lib.hid (HC12.out.walk he13 hs13)
   have HS13:=Lib.hid (HS12.out.trans hs13)
   have cb13:w13.cell? ⟨w7.heap.size+1,0,none⟩=some (.int .i64 v):=by rw [hv];exact HC13.out.cb.cellS rfl
   clear he13 hs13 hC12 hS12 hv HL2 n0 n1 c11 cb11 cm11 cl11
   go_wp2_with fail
   go_ret
   exact ⟨_,_,_,_,by rw [HV.out];rfl,HC13.out.eg,HS13.out⟩
  ·have HV:Hid (edgeT s (n+1) (.node a b c d)=sb):=HED.out
   obtain ⟨w12,hrun,he12,hs12⟩:=HC11.out.eg.put HT.out HL.out (by omega)
   rw [HV.out] at hrun
   have HC12:=Lib.hid (HC11.out.walk he12 hs12)
   have HS12:=Lib.hid (HS11.out.trans hs12)
   have cb12:w12.cell? ⟨w7.heap.size+1,0,none⟩=some (.int .i64 sb):=HC12.out.cb.cellS rfl
   clear he12 hs12 HED
   go_wp2_with fail
   go_ret
   exact ⟨_,_,_,_,by rw [HV.out];rfl,HC12.out.eg,HS12.out⟩
set_option maxRecDepth 100000 in
theorem edge_zero (s:Nat):EgOk s 0:=by
 intro w wb mb eb p R S A t K m K2 m2 h id T hl hT
 have hb:Below w.heap.size w ((((w.alloc (.cells #[.pointer (some ⟨wb,0,none⟩)] 232)).alloc (.cells #[.int .i64 0] 3)).alloc (.cells #[.int .i64 s] 3)).alloc (.cells #[.map (some eb)] 234)):=((((Below.refl _ _).alloc (Nat.le_refl _) _).alloc (by simp) _).alloc (by simp;omega) _).alloc (by simp;omega) _
 have HE:=Lib.hid (h.below hb)
 have HS:Hid (StepH (EdX wb mb eb) p R R w _):=StepH.of_below hb
 have hz:edgeT s 0 T=0:=rfl
 rw [show ((0:Nat):Int)=0 from rfl]
 clear h hb hl hT
 go_enter Tryz.func160,Tryz.ntmps160
 go_wp2_with fail
 go_returns
 exact ⟨K,m,K2,m2,rfl,HE.out,HS.out⟩
theorem edge_any (s:Nat) (hs:s<4):∀n,n≤44→EgOk s n
 | 0,_=>edge_zero s
 | n+1,h=>edge_more s n hs h (edge_any s hs n (by omega))
end Go.Proofs.YthohnjgnpapnoaaGreatDoor
namespace Go.Proofs.YthohnjgnpapnoaaGreatDoor
open Go.RowKit
def bxD (P:Int→Int→Bool) (k s:Nat):Int:=edgeT s (k+1) (rootT P k)
def bxX0 (P:Int→Int→Bool) (k:Nat):Int:=bxD P k 2-2^k
def bxY0 (P:Int→Int→Bool) (k:Nat):Int:=bxD P k 0-2^k
def bxX1 (P:Int→Int→Bool) (k:Nat):Int:=2^k-1-bxD P k 3
def bxY1 (P:Int→Int→Bool) (k:Nat):Int:=2^k-1-bxD P k 1
def BoxP (w:World) (p:Nat) (R:ArR) (S:ArS) (A:Nat→Abs) (P:Int→Int→Bool) (k:Nat) (e:Ending) (w':World):Prop:=
 (blankT (rootT P k)=true∧e= .returned (.tuple #[.agg #[.int .i64 0,.int .i64 0,.int .i64 0,.int .i64 0],.bool false,.int .i64 0])∨
  blankT (rootT P k)=false∧e= .returned (.tuple #[.agg #[.int .i64 (bxX0 P k),.int .i64 (bxY0 P k),.int .i64 (bxX1 P k),.int .i64 (bxY1 P k)],.bool true,.int .i64 0]))∧Ar w' p R S A∧StepH NoX p R R w w'
structure BxI (w:World) (wb mb db p:Nat) (R:ArR) (S:ArS) (A:Nat→Abs) (t:Nat) (P:Int→Int→Bool) (k j:Nat) (V:Nat→Int) (K:List Int) (m:Int→Int) (wx:World):Prop where
 wk:Wk wx wb mb p R S A t 0 K m
 z:Blk wx w.heap.size 52 #[.int .i64 0,.int .i64 0,.int .i64 0,.int .i64 0]
 d:Blk wx db 22 (QC V)
 v:∀i,i<j→V i=bxD P k i
 st:StepH (fun b=>w.heap.size≤b) p R R w wx
structure BxB (w:World) (wb mb db p:Nat) (R:ArR):Prop where
 own:∀b,Own p R b→b<w.heap.size
 l1:w.heap.size<wb
 l2:w.heap.size<mb
 l3:w.heap.size<db
 n1:db≠wb
 n2:db≠mb
section
variable {w wx w5 : World} {wb mb db p t k j s : Nat} {R : ArR} {S : ArS} {A : Nat → Abs} {P : Int → Int → Bool} {V : Nat → Int} {K K' : List Int} {m m' : Int → Int} {K2 : List Int} {m2 : Int → Int}
theorem BxI.eg (h:BxI w wb mb db p R S A t P k j V K m wx) (hB:BxB w wb mb db p R) (s:Nat):Eg (wx.alloc (.map #[] 0)) wb mb wx.heap.size p R S A t s K m [] (fun _=>0):=by
 have hlt:=h.wk.map.lt
 exact ⟨h.wk.below ((Below.refl _ _).alloc (Nat.le_refl _) _),MapN.made wx,fun ho=>Nat.lt_irrefl _ (h.wk.hd.arm.own_lt ho),by omega,List.nodup_nil,fun x hx=>by cases hx⟩
theorem BxI.step (h:BxI w wb mb db p R S A t P k j V K m wx) (hB:BxB w wb mb db p R) (hj:j<4) (he:Eg w5 wb mb wx.heap.size p R S A t s K' m' K2 m2) (hs:StepH (EdX wb mb wx.heap.size) p R R (wx.alloc (.map #[] 0)) w5):
 w5.cell? ⟨db,j,none⟩=some (.int .i64 (V j))∧w5.frozen? ⟨db,j,none⟩=false∧BxI w wb mb db p R S A t P k (j+1) (upd V j (bxD P k j)) K' m' (w5.setCell ⟨db,j,none⟩ (.int .i64 (bxD P k j))):=by
 have hb:Below wx.heap.size wx (wx.alloc (.map #[] 0)):=(Below.refl _ _).alloc (Nat.le_refl _) _
 have hd1:=h.d.lt
 have hz1:=h.z.lt
 have no:∀z,w.heap.size≤z→z≠wb→z≠mb→z<wx.heap.size→¬(Own p R z∨EdX wb mb wx.heap.size z):=fun z h1 h2 h3 h4 ho=>by
  rcases ho with ho | (ho | ho) | ho
  ·have:=hB.own z ho;omega
  ·exact h2 ho
  ·exact h3 ho
  ·omega
 have hl1:=hB.l1
 have hl2:=hB.l2
 have hl3:=hB.l3
 have hd5:=(h.d.alloc (.map #[] 0)).mod hs.mod (no db (by omega) hB.n1 hB.n2 hd1)
 have hz5:=(h.z.alloc (.map #[] 0)).mod hs.mod (no w.heap.size (Nat.le_refl _) (by omega) (by omega) hz1)
 have hm:Mod (fun b=>b=db) w5 (w5.setCell ⟨db,j,none⟩ (.int .i64 (bxD P k j))):=(Mod.refl (fun b=>b=db) w5).set (p:=⟨db,j,none⟩) (fun _=>rfl) _
 have s5:StepH (fun b=>w.heap.size≤b) p R R w w5:=(h.st.below hb).trans (hs.wide fun b _ e=>by
  have:=h.st.mod.size
  rcases e with (e | e) | e
  ·subst e;omega
  ·have e:b=mb:=e
   omega
  ·omega)
 refine ⟨hd5.cellS (QC_get V hj),hd5.frozen j,⟨⟨he.wk.hd.keep hm (fun b hb e=>by have:=hB.own b hb;omega) (fun e=>hB.n1 e.symm),he.wk.map.mod hm (fun e=>hB.n2 e.symm),he.wk.no,he.wk.nodup,he.wk.memo,he.wk.none⟩,hz5.mod hm (by omega),?_,fun i hi=>?_,s5.set (q:=⟨db,j,none⟩) (fun _=>by show w.heap.size≤db;omega) _⟩⟩
 ·rw [←QC_set V hj];exact hd5.set j _
 ·by_cases e:i=j
  ·subst e;rw [upd_same]
  ·rw [upd_ne _ _ e];exact h.v i (by omega)
end
set_option maxRecDepth 100000 in
set_option maxHeartbeats 3200000 in
theorem qbox_any (w:World) (p:Nat) (R:ArR) (S:ArS) (A:Nat→Abs) (h:Ar w p R S A) (t:Nat) (ht:t<64) (P:Int→Int→Bool) (k:Nat) (hk:k≤43) (root:Int) (hr:Has S A t root (rootT P k)):
 Calls Tryz.prog 112 #[.pointer (some ⟨p,0,none⟩),.int .i64 t,.int .i64 root] w (BoxP w p R S A P k):=by
 have hp1:=pow_i64 (n:=k) (by omega)
 have hp2:=pow_pos2 k
 have HR:=Lib.hid hr
 have hb0:Below w.heap.size w (w.alloc (.cells #[.int .i64 0,.int .i64 0,.int .i64 0,.int .i64 0] 52)):=(Below.refl _ _).alloc (Nat.le_refl _) _
 have HW:=Lib.hid (walk_any _ p R S A (h.below hb0) t ht)
 have HB0:=Lib.hid hb0
 have HZ0:Hid (Blk (w.alloc (.cells #[.int .i64 0,.int .i64 0,.int .i64 0,.int .i64 0] 52)) w.heap.size 52 #[.int .i64 0,.int .i64 0,.int .i64 0,.int .i64 0]):=Blk.new _ _ _
 have H:=Lib.hid h
 have hkb:(k:Int)≤43:=by omega
 have HKK:=Lib.hid hk
 clear h hr hk ht hb0
 go_enter Tryz.func112,Tryz.ntmps112
 go_wp2_with fail
 (with_reducible refine HW.out.mono ?_)
 rintro e w1 ⟨wb,mb,rfl,hw1,hb1,hl1,hl2⟩
 have HW1:=Lib.hid hw1
 have hsz:=HZ0.out.lt
 have HZ1:=Lib.hid (HZ0.out.mod (Mod.of_below_all hb1) id)
 have HB1:Hid (Below w.heap.size w w1):=HB0.out.trans (hb1.mono HB0.out.size)
 have HL1:Hid (w.heap.size<wb∧w.heap.size<mb):=⟨by omega,by omega⟩
 clear hsz
 have HV:=Lib.hid (hlevel_any w1 wb WT [.map (some mb)] p R S A t 0 hw1.hd root (rootT P k) (fun _=>HR.out))
 clear hw1 hb1 hl1 hl2 HW HZ0 HB0
 go_wp2_with fail
 (with_reducible refine HV.out.mono ?_)
 rintro e w2 ⟨lv,rfl,hlv,hd2,hs2⟩
 have hlv2:=hlv rfl
 rw [rootT_lvl] at hlv2
 subst hlv2
 have HW2:=Lib.hid (HW1.out.hand hd2 hs2 (St.refl HW1.out.hd.rel t))
 have HS2:Hid (StepH (fun b=>w.heap.size≤b) p R R w w2):=((StepH.of_below HB1.out:StepH (fun b=>w.heap.size≤b) p R R w w1)).trans (hs2.wide fun b _ e=>by subst e;exact Nat.le_of_lt HL1.out.1)
 have c2:=HW2.out.hd.c2
 have hk0:((k:Int)+1==0)=false:=by rw [beq_eq_false_iff_ne];omega
 have HE:=Lib.hid (wempty_any (rootT P k) w2 wb mb p R S A t _ _ HW2.out root HR.out)
 have HZ2:=Lib.hid (HZ1.out.mod hs2.mod (fun ho=>by
  have h1:=HL1.out
  rcases ho with ho | ho
  ·have:=H.out.arm.own_lt ho;omega
  ·omega))
 clear hlv hd2 hs2 HV
 go_wp2_with fail
 (with_reducible refine HE.out.mono ?_)
 intro e w3 hq
 obtain ⟨K3,m3,rfl,hw3,hs3⟩:=hq
 have HW3:=Lib.hid hw3
 have HS3:Hid (StepH (fun b=>w.heap.size≤b) p R R w w3):=HS2.out.trans (hs3.wide fun b _ e=>by
  have:=HL1.out
  rcases e with e | e
  ·subst e;exact Nat.le_of_lt this.1
  ·have e:b=mb:=e
   subst e;exact Nat.le_of_lt this.2)
 have HFIN:Hid (∀w4,StepH (fun b=>w.heap.size≤b) p R R w w4→StepH NoX p R R w w4):=fun w4 hs=>hs.wide fun b hlt e=>by omega
 have HZ3:=Lib.hid (HZ2.out.mod hs3.mod (fun ho=>by
  have h1:=HL1.out
  rcases ho with ho | ho | ho
  ·have:=H.out.arm.own_lt ho;omega
  ·omega
  ·have ho:w.heap.size=mb:=ho
   omega))
 have HFA:Hid (∀W W':World,Ar W p R S A→Mod (fun b=>b=w.heap.size) W W'→Ar W' p R S A):=fun W W' ha hm=>⟨ha.arm.keep hm fun b hb e=>by have:=H.out.arm.own_lt hb;omega,ha.rel,ha.add⟩
 clear hw3 hs3 HE c2
 cases hbl:blankT (rootT P k)
 ·have HBL:=Lib.hid hbl
  clear hbl
  have hmm:=@run_makeMap Tryz.prog
  have H0:Hid (BxI w wb mb w3.heap.size p R S A t P k 0 (fun _=>0) K3 m3 (w3.alloc (.cells #[.int .i64 0,.int .i64 0,.int .i64 0,.int .i64 0] 22))):=⟨HW3.out.below ((Below.refl _ _).alloc (Nat.le_refl _) _),HZ3.out.alloc _,Blk.new _ _ _,fun i hi=>absurd hi (Nat.not_lt_zero _),HS3.out.alloc _⟩
  have HB:Hid (BxB w wb mb w3.heap.size p R):=by
   have h1:=HW3.out.hd.blk.lt
   have h2:=HW3.out.map.lt
   have h3:=HZ3.out.lt
   exact ⟨fun b hb=>H.out.arm.own_lt hb,HL1.out.1,HL1.out.2,h3,by omega,by omega⟩
  go_wp2_with fail
  generalize World.alloc w3 _=w4 at*
  generalize w3.heap.size=db at*
  go_loopw [41] (fun jv wx=>∃(j:Nat) (V:Nat→Int) (K:List Int) (m:Int→Int),jv= .int .i64 j∧j≤4∧BxI w wb mb db p R S A t P k j V K m wx) (fun jv _=>4-(intOf jv).toNat)
  case atStart=>exact ⟨0,_,K3,m3,rfl,Nat.zero_le _,H0.out⟩
  case round=>
   clear H0
   obtain ⟨j,V,K,m,rfl,hj,hI⟩:=hrel
   have HI:=Lib.hid hI
   clear hI
   by_cases hj4:j<4
   ·have HJ4:=Lib.hid hj4
    have hji:(j:Int)<4:=by omega
    have hwj:IntKind.i64.wrap ((j:Int)+1)=(j:Int)+1:=by rw [IntKind.wrap_i64];omega
    have hek:=edge_any j hj4 (k+1) (by have:=HKK.out;omega) (wr.alloc (.map #[] 0)) wb mb wr.heap.size p R S A t K m [] (fun _=>0) (HI.out.eg HB.out j) root (rootT P k) (treeOf_pf _ _ _ _) HR.out
    rw [show ((k+1:Nat):Int)=(k:Int)+1 by omega] at hek
    have HE:=Lib.hid hek
    clear hek hj hj4
    go_wp2_with fail
    (with_reducible refine HE.out.mono ?_)
    intro e w5 hq
    obtain ⟨K5,m5,K6,m6,rfl,he5,hs5⟩:=hq
    obtain ⟨d0,f0,hI5⟩:=HI.out.step HB.out HJ4.out he5 hs5
    have HI5:=Lib.hid hI5
    obtain ⟨v,hv⟩:∃v,v=edgeT j (k+1) (rootT P k):=⟨_,rfl⟩
    have HV:Hid (bxD P k j=v):=by rw [hv];rfl
    rw [←hv]
    rw [HV.out] at HI5
    clear he5 hs5 hI5 hv HE
    go_wp2_with fail
    go_roundw
    case rel=>exact ⟨j+1,_,K5,m5,by go_num,HJ4.out,HI5.out⟩
    case measure=>simp [intOf];have:=HJ4.out;omega
   ·obtain rfl:j=4:=by omega
    clear hj hj4
    have d0:wr.cell? ⟨db,0,none⟩=some (.int .i64 (bxD P k 0)):=by rw [←HI.out.v 0 (by decide)];exact HI.out.d.cellS (QC_get V (k:=0) (by decide))
    have d1:wr.cell? ⟨db,1,none⟩=some (.int .i64 (bxD P k 1)):=by rw [←HI.out.v 1 (by decide)];exact HI.out.d.cellS (QC_get V (k:=1) (by decide))
    have d2:wr.cell? ⟨db,2,none⟩=some (.int .i64 (bxD P k 2)):=by rw [←HI.out.v 2 (by decide)];exact HI.out.d.cellS (QC_get V (k:=2) (by decide))
    have d3:wr.cell? ⟨db,3,none⟩=some (.int .i64 (bxD P k 3)):=by rw [←HI.out.v 3 (by decide)];exact HI.out.d.cellS (QC_get V (k:=3) (by decide))
    have z0:=HI.out.z.cellS (i:=0) rfl
    have z1:=HI.out.z.cellS (i:=1) rfl
    have z2:=HI.out.z.cellS (i:=2) rfl
    have z3:=HI.out.z.cellS (i:=3) rfl
    have g0:=HI.out.z.frozen 0
    have g1:=HI.out.z.frozen 1
    have g2:=HI.out.z.frozen 2
    have g3:=HI.out.z.frozen 3
    have hq43:(2:Int)^k≤8796093022208:=by
     have h1:=Nat.pow_le_pow_right (n:=2) (by decide) HKK.out
     have h2:((2^k:Nat):Int)≤((2^43:Nat):Int):=Int.ofNat_le.2 h1
     rw [show (2:Nat)^43=8796093022208 by decide] at h2
     simpa using h2
    have hbd:∀s,0≤bxD P k s∧bxD P k s≤17592186044416:=fun s=>by
     have h1:=edgeT_bd s (k+1) (rootT P k)
     have h2:(2:Int)^(k+1)=2^k*2:=Int.pow_succ 2 k
     unfold bxD
     omega
    have HX0:Hid (bxX0 P k=bxD P k 2-2^k):=rfl
    have HX1:Hid (bxX1 P k=2^k-1-bxD P k 3):=rfl
    have HY0:Hid (bxY0 P k=bxD P k 0-2^k):=rfl
    have HY1:Hid (bxY1 P k=2^k-1-bxD P k 1):=rfl
    have b0:=hbd 0
    have b1:=hbd 1
    have b2:=hbd 2
    have b3:=hbd 3
    clear hbd
    generalize bxD P k 0=D0 at*
    generalize bxD P k 1=D1 at*
    generalize bxD P k 2=D2 at*
    generalize bxD P k 3=D3 at*
    obtain ⟨b00,b01⟩:=b0
    obtain ⟨b10,b11⟩:=b1
    obtain ⟨b20,b21⟩:=b2
    obtain ⟨b30,b31⟩:=b3
    go_wp2_with fail
    (with_reducible refine (half_any wr k (by have:=HKK.out;omega)).mono ?_)
    rintro e wq ⟨rfl,rfl⟩
    go_wp2_with fail
    have hbm:Blk ((((wr.setCell ⟨w.heap.size,0,none⟩ (.int .i64 (D2-2^k))).setCell ⟨w.heap.size,1,none⟩ (.int .i64 (D0-2^k))).setCell ⟨w.heap.size,2,none⟩ (.int .i64 (2^k-1-D3))).setCell ⟨w.heap.size,3,none⟩ (.int .i64 (2^k-1-D1))) w.heap.size 52 #[.int .i64 (D2-2^k),.int .i64 (D0-2^k),.int .i64 (2^k-1-D3),.int .i64 (2^k-1-D1)]:=(((HI.out.z.set 0 (.int .i64 (D2-2^k))).set 1 (.int .i64 (D0-2^k))).set 2 (.int .i64 (2^k-1-D3))).set 3 (.int .i64 (2^k-1-D1))
    have hmd:Mod (fun b=>b=w.heap.size) wr ((((wr.setCell ⟨w.heap.size,0,none⟩ (.int .i64 (D2-2^k))).setCell ⟨w.heap.size,1,none⟩ (.int .i64 (D0-2^k))).setCell ⟨w.heap.size,2,none⟩ (.int .i64 (2^k-1-D3))).setCell ⟨w.heap.size,3,none⟩ (.int .i64 (2^k-1-D1))):=((((Mod.refl (fun b=>b=w.heap.size) wr).set (p:=⟨w.heap.size,0,none⟩) (fun _=>rfl) _).set (p:=⟨w.heap.size,1,none⟩) (fun _=>rfl) _).set (p:=⟨w.heap.size,2,none⟩) (fun _=>rfl) _).set (p:=⟨w.heap.size,3,none⟩) (fun _=>rfl) _
    generalize hWW:World.setCell _ _ _=WW at hbm hmd ⊢
    have k0:WW.cell? ⟨w.heap.size,0,none⟩=some (.int .i64 (D2-2^k)):=hbm.cellS rfl
    have k1:WW.cell? ⟨w.heap.size,1,none⟩=some (.int .i64 (D0-2^k)):=hbm.cellS rfl
    have k2:WW.cell? ⟨w.heap.size,2,none⟩=some (.int .i64 (2^k-1-D3)):=hbm.cellS rfl
    have k3:WW.cell? ⟨w.heap.size,3,none⟩=some (.int .i64 (2^k-1-D1)):=hbm.cellS rfl
    clear hWW hbm
    refine bodyPost_ret (v:= .tuple #[.agg #[.int .i64 (D2-2^k),.int .i64 (D0-2^k),.int .i64 (2^k-1-D3),.int .i64 (2^k-1-D1)],.bool true,.int .i64 0]) (by simp [results,Tryz.results112,go_sem,k0,k1,k2,k3]) rfl ?_
    exact ⟨.inr ⟨HBL.out,by rw [HX0.out,HX1.out,HY0.out,HY1.out]⟩,HFA.out _ _ HI.out.wk.hd.ar hmd,HFIN.out _ (HI.out.st.trans ⟨hmd.mono fun b _ e=> .inr (by show w.heap.size≤b;omega),fun _ h=> .inl h⟩)⟩
 ·have HBL:=Lib.hid hbl
  clear hbl
  have z0:=HZ3.out.cellS (i:=0) rfl
  have z1:=HZ3.out.cellS (i:=1) rfl
  have z2:=HZ3.out.cellS (i:=2) rfl
  have z3:=HZ3.out.cellS (i:=3) rfl
  have g0:=HZ3.out.frozen 0
  have g1:=HZ3.out.frozen 1
  have g2:=HZ3.out.frozen 2
  have g3:=HZ3.out.frozen 3
  go_wp2_with fail
  have hbm:Blk ((((w3.setCell ⟨w.heap.size,0,none⟩ (.int .i64 0)).setCell ⟨w.heap.size,1,none⟩ (.int .i64 0)).setCell ⟨w.heap.size,2,none⟩ (.int .i64 0)).setCell ⟨w.heap.size,3,none⟩ (.int .i64 0)) w.heap.size 52 #[.int .i64 0,.int .i64 0,.int .i64 0,.int .i64 0]:=(((HZ3.out.set 0 (.int .i64 0)).set 1 (.int .i64 0)).set 2 (.int .i64 0)).set 3 (.int .i64 0)
  have hmd:Mod (fun b=>b=w.heap.size) w3 ((((w3.setCell ⟨w.heap.size,0,none⟩ (.int .i64 0)).setCell ⟨w.heap.size,1,none⟩ (.int .i64 0)).setCell ⟨w.heap.size,2,none⟩ (.int .i64 0)).setCell ⟨w.heap.size,3,none⟩ (.int .i64 0)):=((((Mod.refl (fun b=>b=w.heap.size) w3).set (p:=⟨w.heap.size,0,none⟩) (fun _=>rfl) _).set (p:=⟨w.heap.size,1,none⟩) (fun _=>rfl) _).set (p:=⟨w.heap.size,2,none⟩) (fun _=>rfl) _).set (p:=⟨w.heap.size,3,none⟩) (fun _=>rfl) _
  generalize hWW:World.setCell _ _ _=WW at hbm hmd ⊢
  have k0:WW.cell? ⟨w.heap.size,0,none⟩=some (.int .i64 0):=hbm.cellS rfl
  have k1:WW.cell? ⟨w.heap.size,1,none⟩=some (.int .i64 0):=hbm.cellS rfl
  have k2:WW.cell? ⟨w.heap.size,2,none⟩=some (.int .i64 0):=hbm.cellS rfl
  have k3:WW.cell? ⟨w.heap.size,3,none⟩=some (.int .i64 0):=hbm.cellS rfl
  clear hWW hbm
  refine bodyPost_ret (v:= .tuple #[.agg #[.int .i64 0,.int .i64 0,.int .i64 0,.int .i64 0],.bool false,.int .i64 0]) (by simp [results,Tryz.results112,go_sem,k0,k1,k2,k3]) rfl ?_
  exact ⟨.inl ⟨HBL.out,rfl⟩,HFA.out _ _ HW3.out.hd.ar hmd,HFIN.out _ (HS3.out.trans ⟨hmd.mono fun b _ e=> .inr (by show w.heap.size≤b;omega),fun _ h=> .inl h⟩)⟩
end Go.Proofs.YthohnjgnpapnoaaGreatDoor
namespace Go.Proofs.YthohnjgnpapnoaaGreatDoor
open Go.RowKit
def StepsC (b l:Int) (P:Int→Int→Bool) (n j:Nat) (V:List Thing):Prop:=∀i,i<j→n/2^i%2=1→∀k,Can (evN b l (n%2^i) P) k→LeapC b l (evN b l (n%2^i) P) k i V
theorem StepsC.le {b l:Int} {P:Int→Int→Bool} {n i j:Nat} {V:List Thing} (h:StepsC b l P n j V) (hi:i≤j):StepsC b l P n i V:=fun m hm=>h m (by omega)
def StepsD (b l:Int) (P:Int→Int→Bool) (k n j:Nat) (V:List Thing):Prop:=(∀x∈peelL P k,x∈V)∧∀i,i<j→n/2^i%2=1→∀κ,Can (evN b l (n%2^i) P) κ→LeapD b l (evN b l (n%2^i) P) κ i V
theorem StepsD.le {b l:Int} {P:Int→Int→Bool} {k n i j:Nat} {V:List Thing} (h:StepsD b l P k n j V) (hi:i≤j):StepsD b l P k n i V:=⟨h.1,fun m hm=>h.2 m (by omega)⟩
theorem StepsD.mono {b l:Int} {P:Int→Int→Bool} {k n j:Nat} {V V':List Thing} (h:StepsD b l P k n j V) (hv:∀x∈V,x∈V'):StepsD b l P k n j V':=⟨fun x hx=>hv x (h.1 x hx),fun i hi hb κ hc=>(h.2 i hi hb κ hc).mono hv⟩
theorem StepsD.c {b l:Int} {P:Int→Int→Bool} {k n j:Nat} {V:List Thing} (h:StepsD b l P k n j V):StepsC b l P n j V:=fun i hi hb κ hc=>(h.2 i hi hb κ hc).1
theorem no_bit {n i:Nat} (h:n<2^i):¬n/2^i%2=1:=by rw [Nat.div_eq_of_lt h];decide
structure StepsI (w:World) (p:Nat) (R:ArR) (S:ArS) (A:Nat→Abs) (t:Nat) (b l:Int) (P:Int→Int→Bool) (k0 n j κ:Nat) (L:List Thing) (r:Int) (S':ArS) (A':Nat→Abs) (R':ArR) (bad':Int) (wx:World):Prop where
 ar:Ar wx p R' S' A'
 len:L.length≤44*(j+1)
 gr:Grew t (fun V=>StepsC b l P n j V∧∀x∈L,x∈V) S A 0 S' A' bad'
 has:bad'=0→Has S' A' t r (rootT (evN b l (n%2^j) P) κ)∧Can (evN b l (n%2^j) P) κ
 st:StepH NoX p R R' w wx
 blk:Blk wx w.heap.size 54 #[.int .i64 b,.int .i64 l]
 no:¬Own p R' w.heap.size
 nam:∀V,StepsD b l P k0 n j V→∀x∈L,x∈V
 told:bad'=0→StepsD b l P k0 n j (A' t).have_
def StepsPost (w:World) (p:Nat) (R:ArR) (S:ArS) (A:Nat→Abs) (t:Nat) (b l:Int) (P:Int→Int→Bool) (k0 n:Nat) (e:Ending) (w':World):Prop:=
 ∃(κ:Nat) (L:List Thing) (r:Int) (S':ArS) (A':Nat→Abs) (R':ArR) (bad':Int),e= .returned (.tuple #[.int .i64 (if bad'=0 then r else 0),.int .i64 bad'])∧L.length≤44*40∧Grew t (fun V=>StepsC b l P n 40 V∧∀x∈L,x∈V) S A 0 S' A' bad'∧
  (bad'=0→Has S' A' t r (rootT (evN b l n P) κ)∧Can (evN b l n P) κ)∧Ar w' p R' S' A'∧StepH NoX p R R' w w'∧(∀V,StepsD b l P k0 n 40 V→∀x∈L,x∈V)∧(bad'=0→StepsD b l P k0 n 40 (A' t).have_)
section
variable {w wx w1 : World} {p : Nat} {R R' R2 : ArR} {S S' S2 : ArS} {A A' A2 : Nat → Abs} {t : Nat} {b l : Int} {P : Int → Int → Bool} {k0 n j κ k2 : Nat} {L L2 : List Thing} {r r2 bad' bad2 : Int}
theorem StepsI.skip (h:StepsI w p R S A t b l P k0 n j κ L r S' A' R' bad' wx) (hb:¬n/2^j%2=1):StepsI w p R S A t b l P k0 n (j+1) κ L r S' A' R' bad' wx:=by
 have e:n%2^(j+1)=n%2^j:=by
  rw [Nat.mod_pow_succ]
  have:n/2^j%2=0:=by omega
  rw [this];simp
 have hl:=h.len
 exact ⟨h.ar,by omega,h.gr.mono fun V hV=>⟨hV.1.le (Nat.le_succ j),hV.2⟩,by rw [e];exact h.has,h.st,h.blk,h.no,fun V hV=>h.nam V (hV.le (Nat.le_succ j)),fun e0=>⟨(h.told e0).1,fun i hi hbi κ hc=>by
  by_cases q:i=j
  ·subst q;exact absurd hbi hb
  ·exact (h.told e0).2 i (by omega) hbi κ hc⟩⟩
theorem StepsI.leap (h:StepsI w p R S A t b l P k0 n j κ L r S' A' R' 0 wx) (hg:goodR b l) (hb:n/2^j%2=1) {e:Ending} (hj:j≤30) (hk:κ≤41) (hp:LeapPost wx p R' S' A' t b l (evN b l (n%2^j) P) κ j e w1):
 ∃k2 L2 r2 S2 A2 R2 bad2,e= .returned (.tuple #[.int .i64 (if bad2=0 then r2 else 0),.int .i64 bad2])∧StepsI w p R S A t b l P k0 n (j+1) k2 (L++L2) r2 S2 A2 R2 bad2 w1:=by
 obtain ⟨k2,L2,r2,S2,A2,R2,bad2,rfl,hl,hgr,hh,ha,hst,hl2,hd2⟩:=hp
 have em:n%2^(j+1)=n%2^j+2^j:=by rw [Nat.mod_pow_succ,hb];simp
 have ee:evN b l (2^j) (evN b l (n%2^j) P)=evN b l (n%2^(j+1)) P:=by rw [evN_add,em]
 obtain ⟨_,hc⟩:=h.has rfl
 have hl1:=h.len
 have hK:leapK κ j≤43:=by unfold leapK;omega
 refine ⟨k2,L2,r2,S2,A2,R2,bad2,rfl,ha,by rw [List.length_append];omega,?_,fun e0=>?_,h.st.trans hst,hst.keepX h.blk h.no (fun h=>h),hst.not h.blk.lt h.no,fun V hV x hx=>?_,fun e0=>⟨fun x hx=>hgr.st.mono x ((h.told rfl).1 x hx),fun i hi hbi κ' hc'=>?_⟩⟩
 ·refine (h.gr.mono fun V hV=>⟨hV.1.le (Nat.le_succ j),fun x hx=>hV.2 x (List.mem_append_left _ hx)⟩).trans (hgr.mono fun V hV=>⟨hV.1 j (Nat.lt_succ_self j) hb κ hc,fun x hx=>hV.2 x (List.mem_append_right _ hx)⟩)
 ·obtain ⟨g1,g2,g3,g4,g5⟩:=hh e0
  rw [ee] at g1 g4 g5
  refine ⟨g1,can_of (k:=leapK κ j-1) ?_ g2 g4 g5⟩
  rw [←ee]
  exact supp_leap hg hc.2.1
 ·rcases List.mem_append.1 hx with q | q
  ·exact h.nam V (hV.le (Nat.le_succ j)) x q
  ·exact (hV.2 j (Nat.lt_succ_self j) hb κ hc).2 x (hl2 x q)
 ·by_cases q:i=j
  ·subst q
   rw [hc'.uniq hc]
   exact hd2 e0
  ·exact ((h.told rfl).2 i (by omega) hbi κ' hc').mono hgr.st.mono
end
set_option maxRecDepth 100000 in
set_option maxHeartbeats 6400000 in
theorem steps_any (w:World) (p:Nat) (R:ArR) (S:ArS) (A:Nat→Abs) (h:Ar w p R S A) (t:Nat) (ht:t<64) (b l:Int) (hg:goodR b l) (P:Int→Int→Bool) (k:Nat) (h1:1≤k) (hk:k≤41) (hs:Supp P k) (n:Nat) (hn:n≤1073741824) (M:Nat) (hM:M≤41) (hM1:1≤M) (hsp:∀m,m≤n→Supp (evN b l m P) M) (root:Int) (hr:Has S A t root (rootT P k)):
 Calls Tryz.prog 113 #[.pointer (some ⟨p,0,none⟩),.int .i64 t,.agg #[.int .i64 b,.int .i64 l],.int .i64 root,.int .i64 n] w (StepsPost w p R S A t b l P k n):=by
 have HA:=Lib.hid h
 have HGD:=Lib.hid (fun w=>good_true w b l hg)
 have HG:=Lib.hid hg
 have HR:=Lib.hid hr
 have HS:=Lib.hid hs
 have HSP:=Lib.hid hsp
 have HKK:=Lib.hid (And.intro h1 (And.intro hk (And.intro hM hM1)))
 have hn0:(n:Int)≤1073741824:=by omega
 clear h hg hr hs hsp h1 hk hM hM1 hn
 go_enter Tryz.func113,Tryz.ntmps113
 go_wp2_with fail
 have hb1:Below w.heap.size w (w.alloc (.cells #[.int .i64 b,.int .i64 l] 54)):=(Below.refl _ _).alloc (Nat.le_refl _) _
 have HB1:Hid (Blk (w.alloc (.cells #[.int .i64 b,.int .i64 l] 54)) w.heap.size 54 #[.int .i64 b,.int .i64 l]):=Blk.new _ _ _
 have HA1:=Lib.hid (HA.out.below hb1)
 have HS1:Hid (StepH NoX p R R w (w.alloc (.cells #[.int .i64 b,.int .i64 l] 54))):=StepH.of_below hb1 |>.wide fun _ _ h=>h
 have HZ:Hid (¬Own p R w.heap.size):=fun ho=>Nat.lt_irrefl _ (HA.out.arm.own_lt ho)
 clear hb1
 generalize w.alloc (.cells #[.int .i64 b,.int .i64 l] 54)=w1 at*
 (with_reducible refine (HGD.out w1).mono ?_)
 rintro e w2 ⟨rfl,hb2⟩
 have HA2:=Lib.hid (HA1.out.below hb2)
 have HB2:=Lib.hid (HB1.out.mod (Mod.of_below_all hb2) id)
 have HS2:Hid (StepH NoX p R R w w2):=HS1.out.trans (StepH.of_below hb2)
 clear hb2 HA1 HB1 HS1
 have HPL:=Lib.hid (peel_any w2 p R S A HA2.out t ht P k HKK.out.1 (by have:=HKK.out;omega) root HR.out)
 go_wp2_with fail
 (with_reducible refine HPL.out.mono ?_)
 intro e w3 hq
 unfold PeelPost at hq
 obtain ⟨κ,L,r3,S3,A3,R3,bad3,rfl,k1,k2,k3,hm3,hh3,ha3,hs3,hl3,hd3⟩:=hq
 have H0:Hid (StepsI w p R S A t b l P k n 0 κ L r3 S3 A3 R3 bad3 w3):=by
  have e:n%2^0=0:=by simp [Nat.mod_one]
  refine ⟨ha3,by have:=HKK.out;omega,hm3.grew.mono fun V hV=>hV.2,fun e0=>?_,HS2.out.trans hs3,hs3.keepX HB2.out HZ.out (fun h=>h),hs3.not HB2.out.lt HZ.out,fun V hV x hx=>hV.1 x (hl3 x hx),fun e0=>⟨hd3 e0,fun i hi=>absurd hi (Nat.not_lt_zero _)⟩⟩
  rw [e]
  exact ⟨(hh3 e0).1,can_of HS.out k1 (hh3 e0).2.1 (hh3 e0).2.2⟩
 clear hm3 hh3 ha3 hs3 hl3 hd3 HPL k1 k2 k3
 obtain ⟨rr,hrr⟩:∃rr,(if bad3=0 then r3 else 0)=rr:=⟨_,rfl⟩
 rw [hrr]
 have HRR:=Lib.hid hrr
 clear hrr
 go_wp2_with fail
 go_loopw [13,3,12] (fun jv rt ev wx=>∃(j κ:Nat) (L:List Thing) (r rr:Int) (S':ArS) (A':Nat→Abs) (R':ArR) (bad':Int),jv= .int .i64 j∧j≤31∧rt= .int .i64 rr∧(if bad'=0 then r else 0)=rr∧ev= .int .i64 bad'∧StepsI w p R S A t b l P k n j κ L r S' A' R' bad' wx) (fun jv _ _ _=>32-(intOf jv).toNat)
 case atStart=>exact ⟨0,κ,L,r3,rr,S3,A3,R3,bad3,rfl,by decide,rfl,HRR.out,rfl,H0.out⟩
 case round=>
  clear H0 HRR
  obtain ⟨j,κ,L,r,rr,S',A',R',bad',rfl,hj,rfl,hrr,rfl,hI⟩:=hrel
  have HI:=Lib.hid hI
  have HRR:=Lib.hid hrr
  clear hI hrr
  have hj0:(j:Int)≤31:=by omega
  by_cases hb:bad'=0
  ·subst hb
   by_cases hpos:0<n/2^j
   ·have hpi:0<(n:Int)/2^j:=by
     have e:((n/2^j:Nat):Int)=(n:Int)/2^j:=by simp
     rw [←e];omega
    have hple:(n:Int)/2^j≤1073741824:=by
     have e:((n/2^j:Nat):Int)=(n:Int)/2^j:=by simp
     have:=Nat.div_le_self n (2^j)
     rw [←e];omega
    have hand:=i64_and1 ((n:Int)/2^j) (by omega) (by omega)
    by_cases hbit:n/2^j%2=1
    ·have hbi:(n:Int)/2^j%2=1:=by
      have e:((n/2^j:Nat):Int)=(n:Int)/2^j:=by simp
      rw [←e];omega
     have hle:2^j≤n:=(Nat.div_pos_iff.1 hpos).2
     have HJ30:Hid (j≤30):=by
      show j≤30
      refine Nat.le_of_not_lt fun hlt=>?_
      have h1:=Nat.pow_le_pow_right (n:=2) (by decide) (show 31≤j from hlt)
      have h2:2^31=2147483648:=by decide
      have h3:n≤1073741824:=by omega
      omega
     have HCN:=Lib.hid (HI.out.has rfl)
     have HK41:Hid (κ≤41):=Nat.le_trans (HCN.out.2.le HKK.out.2.2.2 (HSP.out (n%2^j) (Nat.mod_le _ _))) HKK.out.2.2.1
     have HLP:=Lib.hid (leap_any wr p R' S' A' HI.out.ar t ht b l HG.out (evN b l (n%2^j) P) κ HCN.out.2.1 HK41.out HCN.out.2.2.1 j HJ30.out r HCN.out.1)
     have HBIT:=Lib.hid hbit
     have hrr:r=rr:=HRR.out
     subst hrr
     have c0:=HI.out.blk.cellS (i:=0) rfl
     have c1:=HI.out.blk.cellS (i:=1) rfl
     clear hle hpos hbit hj
     go_wp2_with fail
     (with_reducible refine HLP.out.mono ?_)
     intro e w5 hq
     obtain ⟨k2,L2,r2,S2,A2,R2,bad2,rfl,hI2⟩:=HI.out.leap HG.out HBIT.out HJ30.out HK41.out hq
     obtain ⟨rr2,hrr2⟩:∃rr2,(if bad2=0 then r2 else 0)=rr2:=⟨_,rfl⟩
     rw [hrr2]
     have HI5:=Lib.hid hI2
     have HRR2:=Lib.hid hrr2
     clear hq hI2 hrr2 c0 c1
     go_wp2_with fail
     go_roundw
     case rel=>exact ⟨j+1,k2,L++L2,r2,rr2,S2,A2,R2,bad2,by go_num,by have:=HJ30.out;omega,rfl,HRR2.out,rfl,HI5.out⟩
     case measure=>simp [intOf];have:=HJ30.out;omega
    ·have hbi:(n:Int)/2^j%2=0:=by
      have e:((n/2^j:Nat):Int)=(n:Int)/2^j:=by simp
      rw [←e];omega
     have HSK:=Lib.hid (HI.out.skip hbit)
     have hle:2^j≤n:=(Nat.div_pos_iff.1 hpos).2
     have HJ30:Hid (j≤30):=by
      show j≤30
      refine Nat.le_of_not_lt fun hlt=>?_
      have h1:=Nat.pow_le_pow_right (n:=2) (by decide) (show 31≤j from hlt)
      have h2:2^31=2147483648:=by decide
      have h3:n≤1073741824:=by omega
      omega
     clear hle hpos hbit hj
     go_wp2_with fail
     go_roundw
     case rel=>exact ⟨j+1,κ,L,r,rr,S',A',R',0,by go_num,by have:=HJ30.out;omega,rfl,HRR.out,rfl,HSK.out⟩
     case measure=>simp [intOf];have:=HJ30.out;omega
   ·have hz:(n:Int)/2^j=0:=by
     have e:((n/2^j:Nat):Int)=(n:Int)/2^j:=by simp
     have h0:n/2^j=0:=Nat.eq_zero_of_not_pos hpos
     rw [←e,h0];rfl
    have HEX:Hid (StepsPost w p R S A t b l P k n (.returned (.tuple #[.int .i64 rr,.int .i64 0])) wr):=by
     have hlt:n<2^j:=by
      refine Nat.lt_of_not_le fun h=>hpos (Nat.div_pos h (Nat.two_pow_pos j))
     have hr:r=rr:=HRR.out
     have hl:=HI.out.len
     have hh:=HI.out.has
     rw [Nat.mod_eq_of_lt hlt] at hh
     exact ⟨κ,L,r,S',A',R',0,by rw [if_pos rfl,hr],by omega,HI.out.gr.mono fun V hV=>⟨hV.1.le (by omega),hV.2⟩,hh,HI.out.ar,HI.out.st,fun V hV=>HI.out.nam V (hV.le (by omega)),fun e0=>⟨(HI.out.told e0).1,fun i hi hbi κ' hc'=>by
      by_cases q:i<j
      ·exact (HI.out.told e0).2 i q hbi κ' hc'
      ·refine absurd hbi (no_bit (Nat.lt_of_lt_of_le hlt (Nat.pow_le_pow_right (by decide) (by omega))))⟩⟩
    clear hpos hj
    go_wp2_with fail
    go_returns
    exact HEX.out
  ·have hb8:(bad'==0)=false:=beq_eq_false_iff_ne.2 hb
   have HB:=Lib.hid hb
   clear hb
   have HEX:Hid (StepsPost w p R S A t b l P k n (.returned (.tuple #[.int .i64 0,.int .i64 bad'])) wr):=by
    have hl:=HI.out.len
    exact ⟨κ,L,r,S',A',R',bad',by rw [if_neg HB.out],by omega,HI.out.gr.mono fun V hV=>⟨hV.1.le (by omega),hV.2⟩,fun e=>absurd e HB.out,HI.out.ar,HI.out.st,fun V hV=>HI.out.nam V (hV.le (by omega)),fun e=>absurd e HB.out⟩
   have hb9:(bad' !=0)=true:=by simp [HB.out]
   clear hj
   go_wp2_with fail
   all_goals (
    go_returns
    exact HEX.out)
end Go.Proofs.YthohnjgnpapnoaaGreatDoor
