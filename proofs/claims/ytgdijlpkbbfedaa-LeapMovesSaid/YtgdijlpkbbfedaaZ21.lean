/- LeapMoves: the walk. -/
import Derived.Test.YtgdijlpkbbfedaaZ19
import Derived.Test.YtgdijlpkbbfedaaZ18
import Derived.Test.YtgdijlpkbbfedaaZ5
import Derived.Test.YtgdijlpkbbfedaaZ17
import Derived.Test.YtgdijlpkbbfedaaZ11

namespace Go.Proofs.Ytgdijlpkbbfedaa
open Go.RowKit

set_option maxRecDepth 100000 in
set_option maxHeartbeats 6400000 in
theorem lmoves_any (W : World) (rb rl : Int) (hrb : -9223372036854775808 ≤ rb ∧ rb ≤ 9223372036854775807) (hrl : -9223372036854775808 ≤ rl ∧ rl ≤ 9223372036854775807) (N : Nat) (v : Value) (l : List (Int × Int)) (dx dy n : Int)
    (h : Rd W W.heap.size 2 v N (flat l)) (hin : ∀ c ∈ l, inC c) (hx : -9223372036854775808 ≤ dx ∧ dx ≤ 9223372036854775807) (hy : -9223372036854775808 ≤ dy ∧ dy ≤ 9223372036854775807) (hn : -9223372036854775808 ≤ n ∧ n ≤ 9223372036854775807) :
    Calls Try.prog 7 #[.agg #[.int .i64 rb, .int .i64 rl], v, .int .i64 dx, .int .i64 dy, .int .i64 n] W fun e W' => e = .returned (.bool true) ∧ Below W.heap.size W W' := by
  have H := Lib.hid h
  have HIN := Lib.hid hin
  have HX := Lib.hid hx
  have HY := Lib.hid hy
  have HN := Lib.hid hn
  have HLEN : Hid (l.length = N) := (h.pairs).1
  clear h hin hx hy hn
  go_enter Try.func7, Try.ntmps7
  go_wp2_with fail
  (with_reducible refine (right_any _ rb rl hrb hrl).mono ?_)
  rintro e w1 ⟨rfl, hb1⟩
  have hz1 := hb1.size
  rw [World.size_alloc] at hb1 hz1
  have HB1 : Hid (Below W.heap.size W w1) := ((Below.refl _ _).alloc (Nat.le_refl _) _).trans (hb1.mono (by omega))
  have HR1 : Hid (Blk w1 W.heap.size 23 #[.int .i64 rb, .int .i64 rl]) := (hb1.block _ (by omega)).trans (Blk.new W _ _)
  have HZ1 := Lib.hid hz1
  have HG : Hid (goodR (rightB rb) (rightL rl)) := right_good rb rl
  generalize rightB rb = p at HG ⊢
  generalize rightL rl = q at HG ⊢
  clear hb1 hz1 hrb hrl
  go_wp2_with fail
  (with_reducible refine (some_lit _ N 30 30 rfl _ l 10 ((H.out.below HB1.out).more HB1.out.size) HIN.out (by omega) (by omega) (by omega)).mono ?_)
  rintro e w2 ⟨v2, rfl, hs2, hf2, hb2⟩
  have HL : Hid (∀ c ∈ someL l 30 10, (-10 ≤ c.1 ∧ c.1 < 10) ∧ (-10 ≤ c.2 ∧ c.2 < 10)) := fun c hc => someL_near (by omega) hc
  have HOK : Hid (∀ c ∈ someL l 30 10, okC c) := fun c hc => by have := HL.out c hc; unfold okC okZ; omega
  have hm : min 30 N ≤ 30 := by omega
  have HLL : Hid ((someL l 30 10).length = min 30 N) := by show _ = _; rw [someL_length, HLEN.out]
  generalize min 30 N = m at hs2 hm HLL
  generalize someL l 30 10 = L at hs2 HL HLL HOK
  have HM := Lib.hid hm
  have HS2 := Lib.hid hs2
  have HF2 := Lib.hid hf2
  have HB2 : Hid (Below W.heap.size W w2) := HB1.out.trans (hb2.mono HB1.out.size)
  have hr2 : Blk w2 W.heap.size 23 #[.int .i64 rb, .int .i64 rl] := (hb2.block _ (by have := HZ1.out; omega)).trans HR1.out
  have HR2 := Lib.hid hr2
  have c0 : w2.cell? ⟨W.heap.size, 0, none⟩ = some (.int .i64 rb) := hr2.cellS rfl
  have c1 : w2.cell? ⟨W.heap.size, 1, none⟩ = some (.int .i64 rl) := hr2.cellS rfl
  have f0 := hr2.frozen 0
  have f1 := hr2.frozen 1
  clear hs2 hf2 hb2 hr2 hm
  go_wp2_with fail
  clear c0 c1 f0 f1
  generalize hw3 : World.setCell (World.setCell w2 _ _) _ _ = w3
  have HR3 : Hid (Blk w3 W.heap.size 23 #[.int .i64 p, .int .i64 q]) := by subst hw3; exact (HR2.out.set 0 _).set 1 _
  have hne2 : sblk v2 ≠ some W.heap.size := fun e => by have := HF2.out _ e; have := HZ1.out; omega
  have hs3 : Sl w3 37 2 v2 m (flat L) := by subst hw3; exact (HS2.out.far hne2 _).far hne2 _
  have HB3 : Hid (Below W.heap.size W w3) := by subst hw3; exact (HB2.out.setCell (Nat.le_refl _) _).setCell (Nat.le_refl _) _
  have HD : Hid (∀ wx, Below w3.heap.size w3 wx → Rd wx w3.heap.size 2 v2 m (flat L)) := fun wx hx => hs3.rd.below hx
  have hr3 : W.heap.size < w3.heap.size := HR3.out.lt
  have HRC : Hid (∀ wx, Below w3.heap.size w3 wx → wx.cell? ⟨W.heap.size, 0, none⟩ = some (.int .i64 p) ∧ wx.cell? ⟨W.heap.size, 1, none⟩ = some (.int .i64 q)) := fun wx hx =>
    have hb : Blk wx W.heap.size 23 #[.int .i64 p, .int .i64 q] := (hx.block _ hr3).trans HR3.out
    ⟨hb.cellS rfl, hb.cellS rfl⟩
  clear hw3 hne2 HR2 HS2 HB2 HB1 HR1 HR3 HZ1 HF2 hs3 hr3 H HIN
  (with_reducible refine (spot_any dx 1048576 (by omega) (by omega) HX.out.1 HX.out.2 _).mono ?_)
  rintro e wq ⟨rfl, rfl⟩
  go_wp2_with fail
  (with_reducible refine (spot_any dy 1048576 (by omega) (by omega) HY.out.1 HY.out.2 _).mono ?_)
  rintro e wq ⟨rfl, rfl⟩
  go_wp2_with fail
  (with_reducible refine (spot_any n 30 (by omega) (by omega) HN.out.1 HN.out.2 _).mono ?_)
  rintro e wq ⟨rfl, rfl⟩
  obtain ⟨M, hM, hMl⟩ : ∃ M : Nat, n % 30 = M ∧ M < 30 := ⟨(n % 30).toNat, by omega, by omega⟩
  have HA' : Hid (0 ≤ dx % 1048576 ∧ dx % 1048576 < 1048576) := ⟨Int.emod_nonneg _ (by omega), Int.emod_lt_of_pos _ (by omega)⟩
  have HB' : Hid (0 ≤ dy % 1048576 ∧ dy % 1048576 < 1048576) := ⟨Int.emod_nonneg _ (by omega), Int.emod_lt_of_pos _ (by omega)⟩
  rw [hM]
  have HML := Lib.hid hMl
  clear hM hMl HX HY HN
  generalize dx % 1048576 = x at HA' ⊢
  generalize dy % 1048576 = y at HB' ⊢
  have HBX := Lib.hid (near_box HL.out)
  have HBY := Lib.hid (moves_box (dx := x) (dy := y) HL.out)
  go_wp2_with fail
  (with_reducible refine (begunQ_any _).mono ?_)
  rintro e w4 ⟨pa, R, S, A, rfl, hA, hnn, hro, hqu, hV, hb4, hfr⟩
  have HO4 : Hid (One w3 w4 pa R S A) := ⟨hA, hb4, hfr⟩
  have HROA := Lib.hid hro
  have HQUA := Lib.hid hqu
  have HVA := Lib.hid hV
  clear hA hnn hro hqu hV hb4 hfr
  have HSH : Hid (Calls Try.prog 14 #[v2, .int .i64 x, .int .i64 y] w4 (TidyPost w4 (L.map (shC x y)))) :=
    shift_ok w4 m v2 L x y ((HD.out w4 HO4.out.bel).more HO4.out.bel.size) (by have := HM.out; omega) HOK.out (fun c hc => by have h1 := HL.out c hc; have h2 := HA'.out; have h3 := HB'.out; unfold okC okZ shC; dsimp only; omega) (by have := HA'.out; omega) (by have := HA'.out; omega) (by have := HB'.out; omega) (by have := HB'.out; omega)
  go_wp2_with fail
  (with_reducible refine HSH.out.mono ?_)
  rintro e w5 ⟨AA, m5, t5, rfl, ht5, hs5, hf5, hb5⟩
  have HO5 := Lib.hid (HO4.out.below hb5)
  have HT5 := Lib.hid ht5
  have HM5 : Hid (m5 ≤ 30 ∧ t5.length = m5) := by
    have e1 := hs5.rd.pairs.1
    have e2 := tid_length ht5
    rw [List.length_map] at e2
    have e3 := HLL.out
    have e4 := HM.out
    exact ⟨by omega, e1⟩
  have HD5 : Hid (Rd w5 w5.heap.size 2 (.slice AA m5 m5) m5 (flat t5) ∧ (∀ b, sblk (.slice AA m5 m5) = some b → ¬ Own pa R b) ∧ ∀ b, sblk (.slice AA m5 m5) = some b → b < w5.heap.size) :=
    ⟨hs5.rd, fun b hb ho => by have := hf5 b hb; have := HO4.out.ar.arm.own_lt ho; omega, fun b hb => (hs5.lt hb).1⟩
  have HOK5 : Hid (∀ c ∈ t5, okC c) := fun c hc => by
    obtain ⟨d, hd, rfl⟩ := List.mem_map.1 ((HT5.out.2 c).1 hc)
    have h1 := HL.out d hd; have h2 := HA'.out; have h3 := HB'.out; unfold okC okZ shC; dsimp only; omega
  clear ht5 hs5 hf5 hb5 HSH HO4
  go_wp2_with fail
  have hq := from_any w5 pa R S A HO5.out.ar 1 (by decide) w3.heap.size m v2 L (HD.out w5 HO5.out.bel) HO5.out.bel.size (by have := HM.out; omega) HOK.out
  rw [cast_one] at hq
  (with_reducible refine hq.mono ?_)
  clear hq
  rintro e w6 ⟨k1, hk, hk40, ra, S1, A1, R1, bad, rfl, hm, hh, hA1, hst⟩
  obtain ⟨rfl, ⟨V1, hV1, hV1l⟩, _⟩ := made_fine (by omega) HVA.out (by have := HLL.out; have := HM.out; simp only [List.length_singleton]; omega) HROA.out (HQUA.out 1 (by decide)) hm
  rw [if_pos rfl]
  have HO6 := Lib.hid (HO5.out.step hA1 hst)
  have HD6 := Lib.hid (HD5.out.1.step HD5.out.2.1 HD5.out.2.2 hst)
  have HCN := Lib.hid (least_can hk)
  have HK40 := Lib.hid hk40
  have HPA := Lib.hid (hh rfl)
  have HRQ6 : Hid (S1.room = 200000 ∧ S1.quota 1 = 200000) := ⟨hm.st.room.trans HROA.out, by rw [hm.st.quota]; exact HQUA.out 1 (by decide)⟩
  have HV1 := Lib.hid hV1
  have HV1L : Hid (V1.length ≤ 1500) := by have h2 := HLL.out; have h3 := HM.out; simp only [List.length_singleton] at hV1l; show V1.length ≤ 1500; omega
  clear hk hk40 hm hh hA1 hst hV1 hV1l HO5 HD5 HVA HROA HQUA HD
  go_wp2_with fail
  have hq := from_any w6 pa R1 S1 A1 HO6.out.ar 1 (by decide) w6.heap.size m5 _ t5 HD6.out.1 (Nat.le_refl _) (by have := HM5.out; omega) HOK5.out
  rw [cast_one] at hq
  (with_reducible refine hq.mono ?_)
  clear hq
  rintro e w7 ⟨k2, hk, hk40, rq, S2, A2, R2, bad, rfl, hm, hh, hA1, hst⟩
  obtain ⟨rfl, ⟨V2, hV2, hV2l⟩, _⟩ := made_fine (by omega) HV1.out (by have := HV1L.out; have := HM5.out; omega) HRQ6.out.1 HRQ6.out.2 hm
  rw [if_pos rfl]
  have HO7 := Lib.hid (HO6.out.step hA1 hst)
  have hck := least_can hk
  rw [tid_set HT5.out, set_moved] at hck
  have HCN2 := Lib.hid hck
  have HK240 := Lib.hid hk40
  have hpq := hh rfl
  rw [tid_set HT5.out, set_moved] at hpq
  have HPQ := Lib.hid hpq
  have HPA7 : Hid (Has S2 A2 1 ra (rootT (setOfL L) k1)) := HPA.out.st (by decide) hm.st
  have HRQ7 : Hid (S2.room = 200000 ∧ S2.quota 1 = 200000) := ⟨hm.st.room.trans HRQ6.out.1, by rw [hm.st.quota]; exact HRQ6.out.2⟩
  have HV2 := Lib.hid hV2
  have HV2L : Hid (V2.length ≤ 3000) := by have h2 := HV1L.out; have h3 := HM5.out; show V2.length ≤ 3000; omega
  clear hk hk40 hm hh hA1 hst hV2 hV2l hck hpq HO6 HD6 HV1 HV1L HRQ6 HPA HT5 HOK5 HM5
  obtain ⟨c0, c1⟩ := HRC.out w7 HO7.out.bel
  have HSP : Hid (Calls Try.prog 13 #[.pointer (some ⟨pa, 0, none⟩), .int .i64 1, .agg #[.int .i64 p, .int .i64 q], .int .i64 ra, .int .i64 (M : Int)] w7 (StepsPost w7 pa R2 S2 A2 1 p q (setOfL L) M)) :=
    steps_any w7 pa R2 S2 A2 HO7.out.ar 1 (by decide) p q HG.out (setOfL L) k1 HCN.out.1 (by have := HK40.out; omega) HCN.out.2.1 M (by have := HML.out; omega) 7 (by decide) (by decide) (fun m' hm' => near_supp HG.out HBX.out (by have := HML.out; omega)) ra HPA7.out
  go_wp2_with fail
  clear c0 c1
  (with_reducible refine HSP.out.mono ?_)
  rintro e w8 ⟨κ, LA, r3, S3, A3, R3, bad3, rfl, hLA, hg3, hh3, hA3, hst3⟩
  obtain ⟨rfl, hw3, hro3, hqu3⟩ := moves_run HG.out HBX.out HML.out HV2.out (by have := HV2L.out; omega) HRQ7.out.1 HRQ7.out.2 hLA hg3
  rw [if_pos rfl]
  have HO8 := Lib.hid (HO7.out.step hA3 hst3)
  have HW3 := Lib.hid (And.intro hw3 (And.intro hro3 hqu3))
  have HLA := Lib.hid hLA
  have HH3 := Lib.hid (hh3 rfl)
  have HPQ8 : Hid (Has S3 A3 1 rq (rootT (moveP x y (setOfL L)) k2)) := HPQ.out.st (by decide) hg3.st
  clear hLA hg3 hh3 hA3 hst3 hw3 hro3 hqu3 HSP HO7 HPA7 HPQ HV2 HRQ7 HCN
  obtain ⟨c0, c1⟩ := HRC.out w8 HO8.out.bel
  have HSP : Hid (Calls Try.prog 13 #[.pointer (some ⟨pa, 0, none⟩), .int .i64 1, .agg #[.int .i64 p, .int .i64 q], .int .i64 rq, .int .i64 (M : Int)] w8 (StepsPost w8 pa R3 S3 A3 1 p q (moveP x y (setOfL L)) M)) :=
    steps_any w8 pa R3 S3 A3 HO8.out.ar 1 (by decide) p q HG.out (moveP x y (setOfL L)) k2 HCN2.out.1 (by have := HK240.out; omega) HCN2.out.2.1 M (by have := HML.out; omega) 21 (by decide) (by decide) (fun m' hm' => moves_supp HG.out HA'.out HB'.out HBY.out (by have := HML.out; omega)) rq HPQ8.out
  go_wp2_with fail
  clear c0 c1
  (with_reducible refine HSP.out.mono ?_)
  rintro e w9 ⟨κ2, LB, r4, S4, A4, R4, bad4, rfl, hLB, hg4, hh4, hA4, hst4⟩
  obtain rfl : bad4 = 0 := moves_run2 HG.out HA'.out HB'.out HBY.out HML.out HW3.out.1 (by have := HV2L.out; omega) HLA.out HW3.out.2.1 HW3.out.2.2 hLB hg4
  rw [if_pos rfl]
  have HO9 := Lib.hid (HO8.out.step hA4 hst4)
  have HH4 := Lib.hid (hh4 rfl)
  have HX9 : Hid (Has S4 A4 1 r3 (rootT (evN p q M (setOfL L)) κ)) := HH3.out.1.st (by decide) hg4.st
  clear hLB hg4 hh4 hA4 hst4 HSP HO8 HPQ8 HW3 HLA HCN2 HRC
  have HSU := Lib.hid (near_supp HG.out HBX.out (m := M) (by have := HML.out; omega))
  have hsu2 := moves_supp HG.out HA'.out HB'.out HBY.out (m := M) (by have := HML.out; omega)
  rw [evN_move] at HH4 hsu2
  have HSU2 := Lib.hid hsu2
  clear hsu2
  generalize evN p q M (setOfL L) = P at *
  have HKP : Hid (κ ≤ 7 ∧ κ2 ≤ 21) := ⟨HH3.out.2.le (by decide) HSU.out, HH4.out.2.le (by decide) HSU2.out⟩
  have HMV := Lib.hid (cells_moved HH3.out.2.2.1 HH4.out.2.2.1)
  have HQA : Hid (Calls Try.prog 17 #[.pointer (some ⟨pa, 0, none⟩), .int .i64 1, .int .i64 r3] w9 (CellsAll w9 pa R4 S4 A4 (cellsT P (κ + 1) (-2 ^ κ) (-2 ^ κ)))) :=
    cells_all w9 pa R4 S4 A4 HO9.out.ar 1 (by decide) P κ (by have := HKP.out; omega) r3 HX9.out (cells_okC HSU.out (by decide))
  go_wp2_with fail
  (with_reducible refine HQA.out.mono ?_)
  rintro e w10 hc10
  by_cases hfew : (cellsT P (κ + 1) (-2 ^ κ) (-2 ^ κ)).length ≤ 4096
  · obtain ⟨q1, m1, s1, rfl, ht1, hs1, hf1, ha1, hst1⟩ := hc10.1 hfew
    have HO10 := Lib.hid (HO9.out.step ha1 hst1)
    have HT1 := Lib.hid ht1
    have HS1 : Hid (Rd w10 w10.heap.size 2 (.slice q1 m1 m1) m1 (flat s1) ∧ (∀ b, sblk (.slice q1 m1 m1) = some b → ¬ Own pa R4 b) ∧ ∀ b, sblk (.slice q1 m1 m1) = some b → b < w10.heap.size) :=
      ⟨hs1.rd, fun b hb => (hf1 b hb).2, fun b hb => (hs1.lt hb).1⟩
    have HQB : Hid (Calls Try.prog 17 #[.pointer (some ⟨pa, 0, none⟩), .int .i64 1, .int .i64 r4] w10 (CellsAll w10 pa R4 S4 A4 (cellsT (moveP x y P) (κ2 + 1) (-2 ^ κ2) (-2 ^ κ2)))) :=
      cells_all w10 pa R4 S4 A4 HO10.out.ar 1 (by decide) (moveP x y P) κ2 (by have := HKP.out; omega) r4 HH4.out.1 (cells_okC HSU2.out (by decide))
    have HFEW := Lib.hid hfew
    clear hc10 ht1 hs1 hf1 ha1 hst1 hfew HQA HO9
    go_wp2_with fail
    (with_reducible refine HQB.out.mono ?_)
    rintro e w11 hc11
    obtain ⟨q2, m2, s2, rfl, ht2, hs2, hf2, ha2, hst2⟩ := hc11.1 (by rw [HMV.out.1]; exact HFEW.out)
    have HO11 := Lib.hid (HO10.out.step ha2 hst2)
    have HT2 := Lib.hid ht2
    have HS12 := Lib.hid (HS1.out.1.step HS1.out.2.1 HS1.out.2.2 hst2)
    have HS2 := Lib.hid hs2.rd
    have HM1 : Hid (m1 ≤ 4096) := by
      have e1 := HS12.out.1.pairs.1
      have e2 := tid_length HT1.out
      have e3 := HFEW.out
      show m1 ≤ 4096; omega
    have HSS : Hid (∀ c ∈ s1, P c.1 c.2 = true) := fun c hc => ((mem_cellsT P _ _ _ c).1 ((HT1.out.2 c).1 hc)).2
    have HSH : Hid (Calls Try.prog 14 #[.slice q1 m1 m1, .int .i64 x, .int .i64 y] w11 (TidyPost w11 (s1.map (shC x y)))) :=
      shift_ok w11 m1 _ s1 x y HS12.out.1 HM1.out (fun c hc => by
        have h1 := HSU.out _ _ (HSS.out c hc)
        have e : (2 : Int) ^ 7 = 128 := by decide
        rw [e] at h1
        unfold okC okZ; omega) (fun c hc => by
        have h1 := HSU.out _ _ (HSS.out c hc)
        have e : (2 : Int) ^ 7 = 128 := by decide
        rw [e] at h1
        have h2 := HA'.out; have h3 := HB'.out
        unfold okC okZ shC; dsimp only; omega) (by have := HA'.out; omega) (by have := HA'.out; omega) (by have := HB'.out; omega) (by have := HB'.out; omega)
    clear hc11 ht2 hs2 hf2 ha2 hst2 HQB HO10 HS1
    go_wp2_with fail
    (with_reducible refine HSH.out.mono ?_)
    rintro e w12 ⟨q3, m3, s3, rfl, ht3, hs3, hf3, hb3⟩
    obtain rfl : s2 = s3 := tid_moved HMV.out.2 HT1.out HT2.out ht3
    obtain rfl : m3 = m2 := by
      have e1 := hs3.rd.pairs.1
      have e2 := HS2.out.pairs.1
      omega
    have HS3 := Lib.hid hs3.rd
    have HS22 := Lib.hid (HS2.out.below hb3)
    have HFIN := Lib.hid ((HO11.out.below hb3).base HB3.out)
    clear ht3 hs3 hf3 hb3 HSH
    go_wp2_with fail
    (with_reducible refine (same_true _ _ _ m3 _ _ s2 HS22.out HS3.out).mono ?_)
    rintro e w13 ⟨rfl, d, rfl⟩
    go_wp2_with fail
    go_ret
    exact ⟨rfl, below_drewN HFIN.out d⟩
  · obtain ⟨rfl, ha1, hst1⟩ := hc10.2 (by omega)
    have HO10 := Lib.hid (HO9.out.step ha1 hst1)
    have HQB : Hid (Calls Try.prog 17 #[.pointer (some ⟨pa, 0, none⟩), .int .i64 1, .int .i64 r4] w10 (CellsAll w10 pa R4 S4 A4 (cellsT (moveP x y P) (κ2 + 1) (-2 ^ κ2) (-2 ^ κ2)))) :=
      cells_all w10 pa R4 S4 A4 HO10.out.ar 1 (by decide) (moveP x y P) κ2 (by have := HKP.out; omega) r4 HH4.out.1 (cells_okC HSU2.out (by decide))
    have HFEW := Lib.hid hfew
    clear hc10 ha1 hst1 hfew HQA HO9
    go_wp2_with fail
    (with_reducible refine HQB.out.mono ?_)
    rintro e w11 hc11
    obtain ⟨rfl, ha2, hst2⟩ := hc11.2 (by rw [HMV.out.1]; have := HFEW.out; omega)
    have HFIN := Lib.hid ((HO10.out.step ha2 hst2).base HB3.out)
    clear hc11 ha2 hst2 HQB
    go_wp2_with fail
    go_ret
    exact ⟨rfl, HFIN.out⟩
end Go.Proofs.Ytgdijlpkbbfedaa
