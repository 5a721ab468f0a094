/- LeapQuota: the walk. -/
import Derived.Test.YtgdijlpkbbfedaaZ19
import Derived.Test.YtgdijlpkbbfedaaZ18
import Derived.Test.YtgdijlpkbbfedaaZ5
import Derived.Test.YtgdijlpkbbfedaaZ17
import Derived.Test.YtgdijlpkbbfedaaZ11

namespace Go.Proofs.Ytgdijlpkbbfedaa
open Go.RowKit

set_option maxRecDepth 100000 in
set_option maxHeartbeats 6400000 in
theorem quota_any (W : World) (rb rl : Int) (hrb : -9223372036854775808 ≤ rb ∧ rb ≤ 9223372036854775807) (hrl : -9223372036854775808 ≤ rl ∧ rl ≤ 9223372036854775807) (N : Nat) (v : Value) (l : List (Int × Int)) (n quota : Int)
    (h : Rd W W.heap.size 2 v N (flat l)) (hin : ∀ c ∈ l, inC c) (hn : -9223372036854775808 ≤ n ∧ n ≤ 9223372036854775807) (hq : -9223372036854775808 ≤ quota ∧ quota ≤ 9223372036854775807) :
    Calls Try.prog 6 #[.agg #[.int .i64 rb, .int .i64 rl], v, .int .i64 n, .int .i64 quota] W fun e W' => e = .returned (.bool true) ∧ Below W.heap.size W W' := by
  have H := Lib.hid h
  have HIN := Lib.hid hin
  have HX := Lib.hid hn
  have HY := Lib.hid hq
  have HLEN : Hid (l.length = N) := (h.pairs).1
  clear h hin hn hq
  go_enter Try.func6, Try.ntmps6
  go_wp2_with fail
  (with_reducible refine (right_any _ rb rl hrb hrl).mono ?_)
  rintro e w1 ⟨rfl, hb1⟩
  have hz1 := hb1.size
  rw [World.size_alloc] at hb1 hz1
  have HB1 : Hid (Below W.heap.size W w1) := ((Below.refl _ _).alloc (Nat.le_refl _) _).trans (hb1.mono (by omega))
  have HR1 : Hid (Blk w1 W.heap.size 23 #[.int .i64 rb, .int .i64 rl]) := (hb1.block _ (by omega)).trans (Blk.new W _ _)
  have HZ1 := Lib.hid hz1
  have HG : Hid (goodR (rightB rb) (rightL rl)) := right_good rb rl
  generalize rightB rb = p at HG ⊢
  generalize rightL rl = q at HG ⊢
  clear hb1 hz1 hrb hrl
  go_wp2_with fail
  (with_reducible refine (some_lit _ N 30 30 rfl _ l 10 ((H.out.below HB1.out).more HB1.out.size) HIN.out (by omega) (by omega) (by omega)).mono ?_)
  rintro e w2 ⟨v2, rfl, hs2, hf2, hb2⟩
  have HL : Hid (∀ c ∈ someL l 30 10, (-10 ≤ c.1 ∧ c.1 < 10) ∧ (-10 ≤ c.2 ∧ c.2 < 10)) := fun c hc => someL_near (by omega) hc
  have HOK : Hid (∀ c ∈ someL l 30 10, okC c) := fun c hc => by have := HL.out c hc; unfold okC okZ; omega
  have hm : min 30 N ≤ 30 := by omega
  have HLL : Hid ((someL l 30 10).length = min 30 N) := by show _ = _; rw [someL_length, HLEN.out]
  generalize min 30 N = m at hs2 hm HLL
  generalize someL l 30 10 = L at hs2 HL HLL HOK
  have HM := Lib.hid hm
  have HS2 := Lib.hid hs2
  have HF2 := Lib.hid hf2
  have HB2 : Hid (Below W.heap.size W w2) := HB1.out.trans (hb2.mono HB1.out.size)
  have hr2 : Blk w2 W.heap.size 23 #[.int .i64 rb, .int .i64 rl] := (hb2.block _ (by have := HZ1.out; omega)).trans HR1.out
  have HR2 := Lib.hid hr2
  have c0 : w2.cell? ⟨W.heap.size, 0, none⟩ = some (.int .i64 rb) := hr2.cellS rfl
  have c1 : w2.cell? ⟨W.heap.size, 1, none⟩ = some (.int .i64 rl) := hr2.cellS rfl
  have f0 := hr2.frozen 0
  have f1 := hr2.frozen 1
  clear hs2 hf2 hb2 hr2 hm
  go_wp2_with fail
  clear c0 c1 f0 f1
  generalize hw3 : World.setCell (World.setCell w2 _ _) _ _ = w3
  have HR3 : Hid (Blk w3 W.heap.size 23 #[.int .i64 p, .int .i64 q]) := by subst hw3; exact (HR2.out.set 0 _).set 1 _
  have hne2 : sblk v2 ≠ some W.heap.size := fun e => by have := HF2.out _ e; have := HZ1.out; omega
  have hs3 : Sl w3 37 2 v2 m (flat L) := by subst hw3; exact (HS2.out.far hne2 _).far hne2 _
  have HB3 : Hid (Below W.heap.size W w3) := by subst hw3; exact (HB2.out.setCell (Nat.le_refl _) _).setCell (Nat.le_refl _) _
  have HD : Hid (∀ wx, Below w3.heap.size w3 wx → Rd wx w3.heap.size 2 v2 m (flat L)) := fun wx hx => hs3.rd.below hx
  have hr3 : W.heap.size < w3.heap.size := HR3.out.lt
  have HRC : Hid (∀ wx, Below w3.heap.size w3 wx → wx.cell? ⟨W.heap.size, 0, none⟩ = some (.int .i64 p) ∧ wx.cell? ⟨W.heap.size, 1, none⟩ = some (.int .i64 q)) := fun wx hx =>
    have hb : Blk wx W.heap.size 23 #[.int .i64 p, .int .i64 q] := (hx.block _ hr3).trans HR3.out
    ⟨hb.cellS rfl, hb.cellS rfl⟩
  clear hw3 hne2 HR2 HS2 HB2 HB1 HR1 HR3 HZ1 HF2 hs3 hr3 H HIN
  (with_reducible refine (spot_any n 60 (by omega) (by omega) HX.out.1 HX.out.2 _).mono ?_)
  rintro e wq ⟨rfl, rfl⟩
  go_wp2_with fail
  (with_reducible refine (spot_any quota 3000 (by omega) (by omega) HY.out.1 HY.out.2 _).mono ?_)
  rintro e wq ⟨rfl, rfl⟩
  obtain ⟨M, hM, hMl⟩ : ∃ M : Nat, n % 60 = M ∧ M < 60 := ⟨(n % 60).toNat, by omega, by omega⟩
  have HQB : Hid (0 ≤ quota % 3000 ∧ quota % 3000 < 3000) := ⟨Int.emod_nonneg _ (by omega), Int.emod_lt_of_pos _ (by omega)⟩
  rw [hM]
  have HML := Lib.hid hMl
  clear hM hMl HX HY
  generalize quota % 3000 = qq at HQB ⊢
  go_wp2_with fail
  (with_reducible refine (begunQ_any _).mono ?_)
  rintro e w4 ⟨pa, R, S, A, rfl, hA, hnn, hro, hqu, hV, hb4, hfr⟩
  have HA := Lib.hid hA
  have HNA := Lib.hid hnn
  have HROA := Lib.hid hro
  have HQUA := Lib.hid hqu
  have HVA := Lib.hid hV
  have HBA := Lib.hid hb4
  have HFA := Lib.hid hfr
  clear hA hnn hro hqu hV hb4 hfr
  go_wp2_with fail
  (with_reducible refine (begunQ_any _).mono ?_)
  rintro e w5 ⟨pb, Q, T, B, rfl, hA, hnn, hro, hqu, hV, hb5, hfr⟩
  have HTW := Lib.hid (Two.born HA.out HBA.out HFA.out hb5 hA hfr)
  have HROB := Lib.hid hro
  have HQUB := Lib.hid hqu
  have HVB := Lib.hid hV
  clear hA hnn hro hqu hV hb5 hfr HA HBA HFA
  go_wp2_with fail
  have hq := from_any w5 pa R S A HTW.out.one 1 (by decide) w3.heap.size m v2 L (HD.out w5 HTW.out.bel) HTW.out.bel.size (by have := HM.out; omega) HOK.out
  rw [cast_one] at hq
  (with_reducible refine hq.mono ?_)
  clear hq
  rintro e w6 ⟨k1, hk, hk40, ra, S1, A1, R1, bad, rfl, hm, hh, hA1, hst⟩
  obtain ⟨rfl, ⟨V1, hV1, hV1l⟩, _⟩ := made_fine (by omega) HVA.out (by have := HLL.out; have := HM.out; simp only [List.length_singleton]; omega) HROA.out (HQUA.out 1 (by decide)) hm
  rw [if_pos rfl]
  have HTW6 := Lib.hid (HTW.out.step hA1 hst)
  have HCN := Lib.hid (least_can hk)
  have HK40 := Lib.hid hk40
  have HPA := Lib.hid (hh rfl)
  have HROA6 : Hid (S1.room = 200000) := hm.st.room.trans HROA.out
  have HV1 := Lib.hid hV1
  have HV1L : Hid (V1.length ≤ 1500) := by have h2 := HLL.out; have h3 := HM.out; simp only [List.length_singleton] at hV1l; show V1.length ≤ 1500; omega
  have HOT : Hid (∀ u, u < 64 → u ≠ 1 → ∀ x ∈ (A1 u).have_, x ∈ [firstT]) := fun u hu hne x hx => HTW.out.one.rel.have_in hu HVA.out x (by rw [← hm.st.oth u hne]; exact hx)
  clear hk hk40 hm hh hA1 hst hV1 hV1l HTW HVA HROA HQUA HNA
  go_wp2_with fail
  have hq := from_any w6 pb Q T B HTW6.out.two 1 (by decide) w3.heap.size m v2 L (HD.out w6 HTW6.out.bel) HTW6.out.bel.size (by have := HM.out; omega) HOK.out
  rw [cast_one] at hq
  (with_reducible refine hq.mono ?_)
  clear hq
  rintro e w7 ⟨k2, hk, hk40, rb2, T1, B1, Q1, bad, rfl, hm, hh, hA1, hst⟩
  obtain ⟨rfl, ⟨V2, hV2, hV2l⟩, _⟩ := made_fine (by omega) HVB.out (by have := HLL.out; have := HM.out; simp only [List.length_singleton]; omega) HROB.out (HQUB.out 1 (by decide)) hm
  rw [if_pos rfl]
  have HTW7 := Lib.hid (HTW6.out.step2 hA1 hst)
  obtain rfl : k2 = k1 := (least_can hk).uniq HCN.out
  have HPB := Lib.hid (hh rfl)
  have HRQB : Hid (T1.room = 200000 ∧ T1.quota 1 = 200000) := ⟨hm.st.room.trans HROB.out, by rw [hm.st.quota]; exact HQUB.out 1 (by decide)⟩
  have HV2 := Lib.hid hV2
  have HV2L : Hid (V2.length ≤ 1500) := by have h2 := HLL.out; have h3 := HM.out; simp only [List.length_singleton] at hV2l; show V2.length ≤ 1500; omega
  clear hk hk40 hm hh hA1 hst hV2 hV2l HTW6 HVB HROB HQUB HD
  go_wp2_with fail
  have HCT : Hid (∀ W, ArM W pa R1 S1 → Calls Try.prog 15 #[.pointer (some ⟨pa, 0, none⟩), .int .i64 1] W fun e w' => e = .returned (.int .i64 (S1.count 1)) ∧ W = w') := fun W hW => count_any W pa R1 S1 hW 1 (by decide)
  (with_reducible refine (HCT.out _ HTW7.out.one.arm).mono ?_)
  rintro e wq ⟨rfl, rfl⟩
  have hcl : 0 ≤ S1.count 1 ∧ S1.count 1 ≤ 1500 := by
    have h1 := HTW7.out.one.rel.count (t := 1) (by decide)
    have h2 := List.Nodup.length_le_of_subset (HTW7.out.one.rel.ok 1 (by decide)).nodup (l₂ := V1) fun x hx => HTW7.out.one.rel.have_in (t := 1) (by decide) HV1.out x hx
    have h3 := HV1L.out
    omega
  obtain ⟨hc0, hc1⟩ := hcl
  obtain ⟨hq0, hq1⟩ := HQB.out
  have HCQ : Hid (max qq (S1.count 1) ≤ 3000 ∧ 0 ≤ max qq (S1.count 1) ∧ S1.count 1 ≤ max qq (S1.count 1)) := ⟨by omega, by omega, by omega⟩
  have HC := Lib.hid (rfl : S1.count 1 = S1.count 1)
  go_wp2_with fail
  generalize max qq (S1.count 1) = q2 at HCQ ⊢
  clear hc0 hc1 hq0 hq1 HC HQB HCT
  have HLM : Hid (Calls Try.prog 16 #[.pointer (some ⟨pa, 0, none⟩), .int .i64 1, .int .i64 q2] w7 fun e w' => e = .returned (.int .i64 0) ∧ ArM w' pa R1 { S1 with quota := upd S1.quota 1 q2 } ∧ Step pa R1 R1 w7 w') :=
    limit_any w7 pa R1 S1 HTW7.out.one.arm 1 (by decide) q2 ⟨HCQ.out.2.1, by rw [HROA6.out]; have := HCQ.out.1; omega⟩
  (with_reducible refine HLM.out.mono ?_)
  rintro e w8 ⟨rfl, ha8, hs8⟩
  have HTW8 := Lib.hid (HTW7.out.step (A' := A1) ⟨ha8, HTW7.out.one.rel.limit, HTW7.out.one.add⟩ (hs8.toH NoX))
  have HPA8 : Hid (Has { S1 with quota := upd S1.quota 1 q2 } A1 1 ra (rootT (setOfL L) k2)) := HPA.out.limit
  have HRM : Hid (Roomy { S1 with quota := upd S1.quota 1 q2 } A1 1) := ⟨[firstT], HOT.out, by
    show (([firstT].length : Nat) : Int) + upd S1.quota 1 q2 1 ≤ S1.room
    rw [upd_same, HROA6.out, List.length_singleton]; have := HCQ.out.1; omega⟩
  have HQ8 : Hid (({ S1 with quota := upd S1.quota 1 q2 } : ArS).count 1 ≤ q2 ∧ ({ S1 with quota := upd S1.quota 1 q2 } : ArS).quota 1 = q2) := ⟨HCQ.out.2.2, by show upd S1.quota 1 q2 1 = q2; exact upd_same _ _ _⟩
  clear ha8 hs8 HLM HTW7 HPA HOT HROA6 HV1 HV1L
  generalize ({ S1 with quota := upd S1.quota 1 q2 } : ArS) = S2 at *
  have HBX := Lib.hid (near_box HL.out)
  obtain ⟨c0, c1⟩ := HRC.out w8 HTW8.out.bel
  have HSP : Hid (Calls Try.prog 13 #[.pointer (some ⟨pa, 0, none⟩), .int .i64 1, .agg #[.int .i64 p, .int .i64 q], .int .i64 ra, .int .i64 (M : Int)] w8 (StepsPost w8 pa R1 S2 A1 1 p q (setOfL L) M)) :=
    steps_any w8 pa R1 S2 A1 HTW8.out.one 1 (by decide) p q HG.out (setOfL L) k2 HCN.out.1 (by have := HK40.out; omega) HCN.out.2.1 M (by have := HML.out; omega) 7 (by decide) (by decide) (fun m' hm' => near_supp HG.out HBX.out (by have := HML.out; omega)) ra HPA8.out
  go_wp2_with fail
  clear c0 c1
  (with_reducible refine HSP.out.mono ?_)
  rintro e w9 ⟨κ, LA, r2, S3, A3, R3, bad3, rfl, hLA, hg3, hh3, hA3, hst3⟩
  have HBD : Hid (bad3 = 0 ∨ bad3 = 9) := by
    rcases hg3.roomy HRM.out with e | e
    · exact .inl e
    · exact .inr e
  have HTW9 := Lib.hid (HTW8.out.step hA3 hst3)
  have HC3 : Hid (S3.count 1 ≤ q2) := by
    have h1 := hg3.le (by rw [HQ8.out.2]; exact HQ8.out.1)
    rw [hg3.st.quota, HQ8.out.2] at h1
    exact h1
  have HH3 := Lib.hid hh3
  generalize hxv : (if bad3 = 0 then r2 else 0) = xv
  have HXV := Lib.hid hxv
  clear hxv hLA hg3 hh3 hA3 hst3 HSP HTW8 HPA8 HRM HQ8
  obtain ⟨c0, c1⟩ := HRC.out w9 HTW9.out.bel
  have HSP : Hid (Calls Try.prog 13 #[.pointer (some ⟨pb, 0, none⟩), .int .i64 1, .agg #[.int .i64 p, .int .i64 q], .int .i64 rb2, .int .i64 (M : Int)] w9 (StepsPost w9 pb Q1 T1 B1 1 p q (setOfL L) M)) :=
    steps_any w9 pb Q1 T1 B1 HTW9.out.two 1 (by decide) p q HG.out (setOfL L) k2 HCN.out.1 (by have := HK40.out; omega) HCN.out.2.1 M (by have := HML.out; omega) 7 (by decide) (by decide) (fun m' hm' => near_supp HG.out HBX.out (by have := HML.out; omega)) rb2 HPB.out
  go_wp2_with fail
  clear c0 c1
  (with_reducible refine HSP.out.mono ?_)
  rintro e w10 ⟨κ', LB, r4, T4, B4, Q4, bad4, rfl, hLB, hg4, hh4, hA4, hst4⟩
  obtain rfl : bad4 = 0 := quota_run HG.out HBX.out HML.out HV2.out (by have := HV2L.out; omega) HRQB.out.1 HRQB.out.2 hLB hg4
  rw [if_pos rfl]
  have HTW10 := Lib.hid (HTW9.out.step2 hA4 hst4)
  have HH4 := Lib.hid (hh4 rfl)
  clear hLB hg4 hh4 hA4 hst4 HSP HTW9 HPB HV2 HV2L HRQB HRC
  have HCT : Hid (∀ W, ArM W pa R3 S3 → Calls Try.prog 15 #[.pointer (some ⟨pa, 0, none⟩), .int .i64 1] W fun e w' => e = .returned (.int .i64 (S3.count 1)) ∧ W = w') := fun W hW => count_any W pa R3 S3 hW 1 (by decide)
  go_wp2_with fail
  (with_reducible refine (HCT.out _ HTW10.out.one.arm).mono ?_)
  rintro e wq ⟨rfl, rfl⟩
  have hle := HC3.out
  have hgt : ¬ q2 < S3.count 1 := by omega
  rcases HBD.out with rfl | rfl
  · obtain rfl : r2 = xv := by
      have := HXV.out
      rwa [if_pos rfl] at this
    have h3 := HH3.out rfl
    obtain rfl : κ' = κ := HH4.out.2.uniq h3.2
    have HSU := Lib.hid (near_supp HG.out HBX.out (m := M) (by have := HML.out; omega))
    have hκ : κ' ≤ 7 := h3.2.le (by decide) HSU.out
    have HKP := Lib.hid hκ
    have HQA : Hid (Calls Try.prog 17 #[.pointer (some ⟨pa, 0, none⟩), .int .i64 1, .int .i64 r2] w10 (CellsAll w10 pa R3 S3 A3 (cellsT (evN p q M (setOfL L)) (κ' + 1) (-2 ^ κ') (-2 ^ κ')))) :=
      cells_all w10 pa R3 S3 A3 HTW10.out.one 1 (by decide) (evN p q M (setOfL L)) κ' (by omega) r2 h3.1 (cells_okC HSU.out (by decide))
    clear h3 hκ HCT HXV
    go_wp2_with fail
    (with_reducible refine HQA.out.mono ?_)
    rintro e w11 hc11
    by_cases hfew : (cellsT (evN p q M (setOfL L)) (κ' + 1) (-2 ^ κ') (-2 ^ κ')).length ≤ 4096
    · obtain ⟨q1, m1, s1, rfl, ht1, hs1, hf1, ha1, hst1⟩ := hc11.1 hfew
      have HTW11 := Lib.hid (HTW10.out.step ha1 hst1)
      have HT1 := Lib.hid ht1
      have HS1 := Lib.hid (hs1.rd.step (p := pb) (R := Q4) (R' := Q4) (w' := w11) (fun b hb ho => by have := (hf1 b hb).1; have := HTW10.out.two.arm.own_lt ho; omega) (fun b hb => (hs1.lt hb).1) (StepH.refl NoX pb Q4 w11))
      have HQB : Hid (Calls Try.prog 17 #[.pointer (some ⟨pb, 0, none⟩), .int .i64 1, .int .i64 r4] w11 (CellsAll w11 pb Q4 T4 B4 (cellsT (evN p q M (setOfL L)) (κ' + 1) (-2 ^ κ') (-2 ^ κ')))) :=
        cells_all w11 pb Q4 T4 B4 HTW11.out.two 1 (by decide) (evN p q M (setOfL L)) κ' (by have := HKP.out; omega) r4 HH4.out.1 (cells_okC HSU.out (by decide))
      have HFEW := Lib.hid hfew
      clear hc11 ht1 hs1 hf1 ha1 hst1 hfew HQA
      go_wp2_with fail
      (with_reducible refine HQB.out.mono ?_)
      rintro e w12 hc12
      obtain ⟨q2', m2, s2, rfl, ht2, hs2, hf2, ha2, hst2⟩ := hc12.1 HFEW.out
      obtain rfl : s1 = s2 := HT1.out.unique ht2
      obtain rfl : m1 = m2 := by
        have e1 := hs2.rd.pairs.1
        have e2 := HS1.out.1.pairs.1
        omega
      have HTW12 := Lib.hid (HTW11.out.step2 ha2 hst2)
      have HR1 := Lib.hid (HS1.out.1.step HS1.out.2.1 HS1.out.2.2 hst2).1
      have HR2 := Lib.hid hs2.rd
      have HFIN : Hid (Below W.heap.size W w12) := HB3.out.trans (HTW12.out.bel.mono HB3.out.size)
      clear hc12 ht2 hs2 hf2 ha2 hst2 HQB
      go_wp2_with fail
      (with_reducible refine (same_true _ _ _ m1 _ _ s1 HR1.out HR2.out).mono ?_)
      rintro e w13 ⟨rfl, d, rfl⟩
      go_wp2_with fail
      go_ret
      exact ⟨rfl, below_drewN HFIN.out d⟩
    · obtain ⟨rfl, ha1, hst1⟩ := hc11.2 (by omega)
      have HTW11 := Lib.hid (HTW10.out.step ha1 hst1)
      have HQB : Hid (Calls Try.prog 17 #[.pointer (some ⟨pb, 0, none⟩), .int .i64 1, .int .i64 r4] w11 (CellsAll w11 pb Q4 T4 B4 (cellsT (evN p q M (setOfL L)) (κ' + 1) (-2 ^ κ') (-2 ^ κ')))) :=
        cells_all w11 pb Q4 T4 B4 HTW11.out.two 1 (by decide) (evN p q M (setOfL L)) κ' (by have := HKP.out; omega) r4 HH4.out.1 (cells_okC HSU.out (by decide))
      have HFEW := Lib.hid hfew
      clear hc11 ha1 hst1 hfew HQA
      go_wp2_with fail
      (with_reducible refine HQB.out.mono ?_)
      rintro e w12 hc12
      obtain ⟨rfl, ha2, hst2⟩ := hc12.2 (by have := HFEW.out; omega)
      have HTW12 := Lib.hid (HTW11.out.step2 ha2 hst2)
      have HFIN : Hid (Below W.heap.size W w12) := HB3.out.trans (HTW12.out.bel.mono HB3.out.size)
      have HR0 : Hid (Rd w12 w12.heap.size 2 (.slice none 0 0) 0 (flat [])) := (Sl.nil w12 37 2).rd
      clear hc12 ha2 hst2 HQB
      go_wp2_with fail
      (with_reducible refine (same_true _ _ _ 0 _ _ [] HR0.out HR0.out).mono ?_)
      rintro e w13 ⟨rfl, d, rfl⟩
      go_wp2_with fail
      go_ret
      exact ⟨rfl, below_drewN HFIN.out d⟩
  · have HFIN : Hid (Below W.heap.size W w10) := HB3.out.trans (HTW10.out.bel.mono HB3.out.size)
    obtain rfl : 0 = xv := by
      have := HXV.out
      rwa [if_neg (show ¬ (9 : Int) = 0 by decide)] at this
    clear HCT HXV
    go_wp2_with fail
    all_goals first
      | (exfalso; omega)
      | (go_ret
         exact ⟨rfl, HFIN.out⟩)
end Go.Proofs.Ytgdijlpkbbfedaa
