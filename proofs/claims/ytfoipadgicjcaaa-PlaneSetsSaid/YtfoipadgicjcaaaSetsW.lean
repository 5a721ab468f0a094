/- PlaneSets: the walk. -/
import Derived.Test.YtfoipadgicjcaaaPick
import Derived.Test.YtfoipadgicjcaaaSome
import Derived.Test.YtfoipadgicjcaaaAlive
namespace Go.Proofs.Ytfoipadgicjcaaa
open Go.RowKit

theorem Rd.carry {w w' : World} {sz n : Nat} {v : Value} {xs : List Value} (h : Rd w w.heap.size sz v n xs) (hb : Below w.heap.size w w') : Rd w' w'.heap.size sz v n xs := (h.below hb).more hb.size
theorem sorted_ext {a b : List (Int × Int)} (ha : a.Pairwise ltC) (hb : b.Pairwise ltC) (h : ∀ c, c ∈ a ↔ c ∈ b) : a = b := Tid.unique (l := b) ⟨ha, h⟩ ⟨hb, fun _ => Iff.rfl⟩
theorem or_mem {t a b : List (Int × Int)} (h : ∀ c, c ∈ t ↔ (decide (c ∈ a) || decide (c ∈ b)) = true) (c : Int × Int) : c ∈ t ↔ (c ∈ a ∨ c ∈ b) := by rw [h]; simp
theorem and_mem {t a b : List (Int × Int)} (h : ∀ c, c ∈ t ↔ (decide (c ∈ a) && decide (c ∈ b)) = true) (c : Int × Int) : c ∈ t ↔ (c ∈ a ∧ c ∈ b) := by rw [h]; simp
theorem not_mem {t a b : List (Int × Int)} (h : ∀ c, c ∈ t ↔ (decide (c ∈ a) && !decide (c ∈ b)) = true) (c : Int × Int) : c ∈ t ↔ (c ∈ a ∧ ¬ c ∈ b) := by rw [h]; simp
theorem same_below (w : World) (n : Nat) (va vb : Value) (l : List (Int × Int)) (ha : Rd w w.heap.size 2 va n (flat l)) (hb : Rd w w.heap.size 2 vb n (flat l)) :
    Calls Try.prog 31 #[va, vb] w fun e w' => e = .returned (.bool true) ∧ Below w.heap.size w w' := by
  refine (same_true w _ _ n va vb l ha hb).mono ?_
  rintro e w' ⟨rfl, d, rfl⟩
  exact ⟨rfl, below_dr (Below.refl _ _) d⟩
theorem near39 {l L : List (Int × Int)} {m : Nat} (h : L = someL l m 549755813888) : ∀ c ∈ L, okC c := fun c hc => by
  subst h; have := someL_near (by omega) hc; unfold okC okZ; omega

set_option maxRecDepth 100000 in
set_option maxHeartbeats 3200000 in
theorem sets_any (w : World) (n1 : Nat) (v1 : Value) (l1 : List (Int × Int)) (n2 : Nat) (v2 : Value) (l2 : List (Int × Int)) (n3 : Nat) (v3 : Value) (l3 : List (Int × Int))
    (h1 : Rd w w.heap.size 2 v1 n1 (flat l1)) (hin1 : ∀ c ∈ l1, inC c) (h2 : Rd w w.heap.size 2 v2 n2 (flat l2)) (hin2 : ∀ c ∈ l2, inC c) (h3 : Rd w w.heap.size 2 v3 n3 (flat l3)) (hin3 : ∀ c ∈ l3, inC c) :
    Calls Try.prog 9 #[v1, v2, v3] w fun e w' => e = .returned (.bool true) ∧ Below w.heap.size w w' := by
  have HB0 := Lib.hid (Below.refl w.heap.size w)
  have HV1_0 := Lib.hid h1
  have HI1 := Lib.hid hin1
  have HN1 : Hid (l1.length = n1) := (h1.pairs).1
  have HV2_0 := Lib.hid h2
  have HI2 := Lib.hid hin2
  have HN2 : Hid (l2.length = n2) := (h2.pairs).1
  have HV3_0 := Lib.hid h3
  have HI3 := Lib.hid hin3
  have HN3 : Hid (l3.length = n3) := (h3.pairs).1
  clear h1 h2 h3 hin1 hin2 hin3
  go_enter Try.func9, Try.ntmps9
  go_wp2_with fail
  (with_reducible refine (some_lit _ n1 1000 1000 rfl _ l1 549755813888 HV1_0.out HI1.out (by omega) (by omega) (by omega)).mono ?_)
  rintro e w101 ⟨a1, rfl, hs, hf, hb⟩
  have HO1 : Hid (∀ c ∈ someL l1 1000 549755813888, okC c) := near39 rfl
  have hm1 : min 1000 n1 ≤ 1000 := by omega
  generalize min 1000 n1 = m1 at hs hm1
  generalize someL l1 1000 549755813888 = L1 at hs HO1
  have HA1_1 := Lib.hid hs.rd
  clear hs hf
  have HB1 : Hid (Below w.heap.size w w101) := HB0.out.trans (hb.mono HB0.out.size)
  have HV2_1 := Lib.hid (HV2_0.out.carry hb)
  have HV3_1 := Lib.hid (HV3_0.out.carry hb)
  clear hb HB0 HV1_0 HV2_0 HV3_0
  go_wp2_with fail
  (with_reducible refine (some_lit _ n2 1000 1000 rfl _ l2 549755813888 HV2_1.out HI2.out (by omega) (by omega) (by omega)).mono ?_)
  rintro e w102 ⟨a2, rfl, hs, hf, hb⟩
  have HO2 : Hid (∀ c ∈ someL l2 1000 549755813888, okC c) := near39 rfl
  have hm2 : min 1000 n2 ≤ 1000 := by omega
  generalize min 1000 n2 = m2 at hs hm2
  generalize someL l2 1000 549755813888 = L2 at hs HO2
  have HA2_2 := Lib.hid hs.rd
  clear hs hf
  have HB2 : Hid (Below w.heap.size w w102) := HB1.out.trans (hb.mono HB1.out.size)
  have HV3_2 := Lib.hid (HV3_1.out.carry hb)
  have HA1_2 := Lib.hid (HA1_1.out.carry hb)
  clear hb HB1 HV2_1 HV3_1 HA1_1
  go_wp2_with fail
  (with_reducible refine (some_lit _ n3 1000 1000 rfl _ l3 549755813888 HV3_2.out HI3.out (by omega) (by omega) (by omega)).mono ?_)
  rintro e w103 ⟨a3, rfl, hs, hf, hb⟩
  have HO3 : Hid (∀ c ∈ someL l3 1000 549755813888, okC c) := near39 rfl
  have hm3 : min 1000 n3 ≤ 1000 := by omega
  generalize min 1000 n3 = m3 at hs hm3
  generalize someL l3 1000 549755813888 = L3 at hs HO3
  have HA3_3 := Lib.hid hs.rd
  clear hs hf
  have HB3 : Hid (Below w.heap.size w w103) := HB2.out.trans (hb.mono HB2.out.size)
  have HA1_3 := Lib.hid (HA1_2.out.carry hb)
  have HA2_3 := Lib.hid (HA2_2.out.carry hb)
  clear hb HB2 HV3_2 HA1_2 HA2_2
  go_wp2_with fail
  (with_reducible refine (union_ok _ m1 m2 _ _ L1 L2 HA1_3.out HA2_3.out (by omega) HO1.out HO2.out).mono ?_)
  rintro e w104 ⟨b1v, b1m, b1t, rfl, hs, hmem, hb1, hr, hb⟩
  have HSB1 := Lib.hid hs
  have HMB1 := Lib.hid (or_mem hmem)
  have HOB1 : Hid (∀ c ∈ b1t, okC c) := fun c hc => by have := (or_mem hmem c).1 hc; exact this.elim (HO1.out c) (HO2.out c)
  have HB1_4 := Lib.hid hr
  clear hs hmem hr
  have HB4 : Hid (Below w.heap.size w w104) := HB3.out.trans (hb.mono HB3.out.size)
  have HA1_4 := Lib.hid (HA1_3.out.carry hb)
  have HA2_4 := Lib.hid (HA2_3.out.carry hb)
  have HA3_4 := Lib.hid (HA3_3.out.carry hb)
  clear hb HB3 HA1_3 HA2_3 HA3_3
  go_wp2_with fail
  (with_reducible refine (union_ok _ m2 m1 _ _ L2 L1 HA2_4.out HA1_4.out (by omega) HO2.out HO1.out).mono ?_)
  rintro e w105 ⟨b2v, b2m, b2t, rfl, hs, hmem, hb2, hr, hb⟩
  have HSB2 := Lib.hid hs
  have HMB2 := Lib.hid (or_mem hmem)
  have HOB2 : Hid (∀ c ∈ b2t, okC c) := fun c hc => by have := (or_mem hmem c).1 hc; exact this.elim (HO2.out c) (HO1.out c)
  have HB2_5 := Lib.hid hr
  clear hs hmem hr
  have HB5 : Hid (Below w.heap.size w w105) := HB4.out.trans (hb.mono HB4.out.size)
  have HA1_5 := Lib.hid (HA1_4.out.carry hb)
  have HA2_5 := Lib.hid (HA2_4.out.carry hb)
  have HA3_5 := Lib.hid (HA3_4.out.carry hb)
  have HB1_5 := Lib.hid (HB1_4.out.carry hb)
  clear hb HB4 HA1_4 HA2_4 HA3_4 HB1_4
  go_wp2_with fail
  (with_reducible refine (union_ok _ b1m m3 _ _ b1t L3 HB1_5.out HA3_5.out (by omega) HOB1.out HO3.out).mono ?_)
  rintro e w106 ⟨b3v, b3m, b3t, rfl, hs, hmem, hb3, hr, hb⟩
  have HSB3 := Lib.hid hs
  have HMB3 := Lib.hid (or_mem hmem)
  have HOB3 : Hid (∀ c ∈ b3t, okC c) := fun c hc => by have := (or_mem hmem c).1 hc; exact this.elim (HOB1.out c) (HO3.out c)
  have HB3_6 := Lib.hid hr
  clear hs hmem hr
  have HB6 : Hid (Below w.heap.size w w106) := HB5.out.trans (hb.mono HB5.out.size)
  have HA1_6 := Lib.hid (HA1_5.out.carry hb)
  have HA2_6 := Lib.hid (HA2_5.out.carry hb)
  have HA3_6 := Lib.hid (HA3_5.out.carry hb)
  have HB1_6 := Lib.hid (HB1_5.out.carry hb)
  have HB2_6 := Lib.hid (HB2_5.out.carry hb)
  clear hb HB5 HA1_5 HA2_5 HA3_5 HB1_5 HB2_5
  go_wp2_with fail
  (with_reducible refine (union_ok _ m2 m3 _ _ L2 L3 HA2_6.out HA3_6.out (by omega) HO2.out HO3.out).mono ?_)
  rintro e w107 ⟨b4v, b4m, b4t, rfl, hs, hmem, hb4, hr, hb⟩
  have HSB4 := Lib.hid hs
  have HMB4 := Lib.hid (or_mem hmem)
  have HOB4 : Hid (∀ c ∈ b4t, okC c) := fun c hc => by have := (or_mem hmem c).1 hc; exact this.elim (HO2.out c) (HO3.out c)
  have HB4_7 := Lib.hid hr
  clear hs hmem hr
  have HB7 : Hid (Below w.heap.size w w107) := HB6.out.trans (hb.mono HB6.out.size)
  have HA1_7 := Lib.hid (HA1_6.out.carry hb)
  have HA2_7 := Lib.hid (HA2_6.out.carry hb)
  have HB1_7 := Lib.hid (HB1_6.out.carry hb)
  have HB2_7 := Lib.hid (HB2_6.out.carry hb)
  have HB3_7 := Lib.hid (HB3_6.out.carry hb)
  clear hb HB6 HA1_6 HA2_6 HA3_6 HB1_6 HB2_6 HB3_6
  go_wp2_with fail
  (with_reducible refine (union_ok _ m1 b4m _ _ L1 b4t HA1_7.out HB4_7.out (by omega) HO1.out HOB4.out).mono ?_)
  rintro e w108 ⟨b5v, b5m, b5t, rfl, hs, hmem, hb5, hr, hb⟩
  have HSB5 := Lib.hid hs
  have HMB5 := Lib.hid (or_mem hmem)
  have HOB5 : Hid (∀ c ∈ b5t, okC c) := fun c hc => by have := (or_mem hmem c).1 hc; exact this.elim (HO1.out c) (HOB4.out c)
  have HB5_8 := Lib.hid hr
  clear hs hmem hr
  have HB8 : Hid (Below w.heap.size w w108) := HB7.out.trans (hb.mono HB7.out.size)
  have HA1_8 := Lib.hid (HA1_7.out.carry hb)
  have HA2_8 := Lib.hid (HA2_7.out.carry hb)
  have HB1_8 := Lib.hid (HB1_7.out.carry hb)
  have HB2_8 := Lib.hid (HB2_7.out.carry hb)
  have HB3_8 := Lib.hid (HB3_7.out.carry hb)
  clear hb HB7 HA1_7 HA2_7 HB1_7 HB2_7 HB3_7 HB4_7
  go_wp2_with fail
  (with_reducible refine (both_ok _ m1 m2 _ _ L1 L2 HA1_8.out HA2_8.out (by omega) HO1.out HO2.out).mono ?_)
  rintro e w109 ⟨b6v, b6m, b6t, rfl, hs, hmem, hb6, hr, hb⟩
  have HSB6 := Lib.hid hs
  have HMB6 := Lib.hid (and_mem hmem)
  have HOB6 : Hid (∀ c ∈ b6t, okC c) := fun c hc => by have := (and_mem hmem c).1 hc; exact HO1.out c this.1
  have HB6_9 := Lib.hid hr
  clear hs hmem hr
  have HB9 : Hid (Below w.heap.size w w109) := HB8.out.trans (hb.mono HB8.out.size)
  have HA1_9 := Lib.hid (HA1_8.out.carry hb)
  have HA2_9 := Lib.hid (HA2_8.out.carry hb)
  have HB1_9 := Lib.hid (HB1_8.out.carry hb)
  have HB2_9 := Lib.hid (HB2_8.out.carry hb)
  have HB3_9 := Lib.hid (HB3_8.out.carry hb)
  have HB5_9 := Lib.hid (HB5_8.out.carry hb)
  clear hb HB8 HA1_8 HA2_8 HB1_8 HB2_8 HB3_8 HB5_8
  go_wp2_with fail
  (with_reducible refine (both_ok _ m2 m1 _ _ L2 L1 HA2_9.out HA1_9.out (by omega) HO2.out HO1.out).mono ?_)
  rintro e w110 ⟨b7v, b7m, b7t, rfl, hs, hmem, hb7, hr, hb⟩
  have HSB7 := Lib.hid hs
  have HMB7 := Lib.hid (and_mem hmem)
  have HOB7 : Hid (∀ c ∈ b7t, okC c) := fun c hc => by have := (and_mem hmem c).1 hc; exact HO2.out c this.1
  have HB7_10 := Lib.hid hr
  clear hs hmem hr
  have HB10 : Hid (Below w.heap.size w w110) := HB9.out.trans (hb.mono HB9.out.size)
  have HA1_10 := Lib.hid (HA1_9.out.carry hb)
  have HA2_10 := Lib.hid (HA2_9.out.carry hb)
  have HB1_10 := Lib.hid (HB1_9.out.carry hb)
  have HB2_10 := Lib.hid (HB2_9.out.carry hb)
  have HB3_10 := Lib.hid (HB3_9.out.carry hb)
  have HB5_10 := Lib.hid (HB5_9.out.carry hb)
  have HB6_10 := Lib.hid (HB6_9.out.carry hb)
  clear hb HB9 HA1_9 HA2_9 HB1_9 HB2_9 HB3_9 HB5_9 HB6_9
  go_wp2_with fail
  (with_reducible refine (minus_ok _ m1 m2 _ _ L1 L2 HA1_10.out HA2_10.out (by omega) HO1.out HO2.out).mono ?_)
  rintro e w111 ⟨b8v, b8m, b8t, rfl, hs, hmem, hb8, hr, hb⟩
  have HSB8 := Lib.hid hs
  have HMB8 := Lib.hid (not_mem hmem)
  have HOB8 : Hid (∀ c ∈ b8t, okC c) := fun c hc => by have := (not_mem hmem c).1 hc; exact HO1.out c this.1
  have HB8_11 := Lib.hid hr
  clear hs hmem hr
  have HB11 : Hid (Below w.heap.size w w111) := HB10.out.trans (hb.mono HB10.out.size)
  have HA1_11 := Lib.hid (HA1_10.out.carry hb)
  have HB1_11 := Lib.hid (HB1_10.out.carry hb)
  have HB2_11 := Lib.hid (HB2_10.out.carry hb)
  have HB3_11 := Lib.hid (HB3_10.out.carry hb)
  have HB5_11 := Lib.hid (HB5_10.out.carry hb)
  have HB6_11 := Lib.hid (HB6_10.out.carry hb)
  have HB7_11 := Lib.hid (HB7_10.out.carry hb)
  clear hb HB10 HA1_10 HA2_10 HB1_10 HB2_10 HB3_10 HB5_10 HB6_10 HB7_10
  go_wp2_with fail
  (with_reducible refine (union_ok _ b8m b6m _ _ b8t b6t HB8_11.out HB6_11.out (by omega) HOB8.out HOB6.out).mono ?_)
  rintro e w112 ⟨b9v, b9m, b9t, rfl, hs, hmem, hb9, hr, hb⟩
  have HSB9 := Lib.hid hs
  have HMB9 := Lib.hid (or_mem hmem)
  have HOB9 : Hid (∀ c ∈ b9t, okC c) := fun c hc => by have := (or_mem hmem c).1 hc; exact this.elim (HOB8.out c) (HOB6.out c)
  have HB9_12 := Lib.hid hr
  clear hs hmem hr
  have HB12 : Hid (Below w.heap.size w w112) := HB11.out.trans (hb.mono HB11.out.size)
  have HA1_12 := Lib.hid (HA1_11.out.carry hb)
  have HB1_12 := Lib.hid (HB1_11.out.carry hb)
  have HB2_12 := Lib.hid (HB2_11.out.carry hb)
  have HB3_12 := Lib.hid (HB3_11.out.carry hb)
  have HB5_12 := Lib.hid (HB5_11.out.carry hb)
  have HB6_12 := Lib.hid (HB6_11.out.carry hb)
  have HB7_12 := Lib.hid (HB7_11.out.carry hb)
  clear hb HB11 HA1_11 HB1_11 HB2_11 HB3_11 HB5_11 HB6_11 HB7_11 HB8_11
  go_wp2_with fail
  (with_reducible refine (tidy_ok _ _ m1 _ L1 HA1_12.out (Nat.le_refl _) (by omega) HO1.out).mono ?_)
  rintro e w113 ⟨A10, m10, t10, rfl, ht10, hs10, hf10, hb⟩
  have HT10 := Lib.hid ht10
  have HB10x_13 := Lib.hid hs10.rd
  clear ht10 hs10 hf10
  have HB13 : Hid (Below w.heap.size w w113) := HB12.out.trans (hb.mono HB12.out.size)
  have HB1_13 := Lib.hid (HB1_12.out.carry hb)
  have HB2_13 := Lib.hid (HB2_12.out.carry hb)
  have HB3_13 := Lib.hid (HB3_12.out.carry hb)
  have HB5_13 := Lib.hid (HB5_12.out.carry hb)
  have HB6_13 := Lib.hid (HB6_12.out.carry hb)
  have HB7_13 := Lib.hid (HB7_12.out.carry hb)
  have HB9_13 := Lib.hid (HB9_12.out.carry hb)
  clear hb HB12 HA1_12 HB1_12 HB2_12 HB3_12 HB5_12 HB6_12 HB7_12 HB9_12
  have q1 : b1t = b2t := sorted_ext HSB1.out HSB2.out fun c => by rw [HMB1.out, HMB2.out]; exact Or.comm
  have q2 : b3t = b5t := sorted_ext HSB3.out HSB5.out fun c => by rw [HMB3.out, HMB1.out, HMB5.out, HMB4.out]; exact or_assoc
  have q3 : b6t = b7t := sorted_ext HSB6.out HSB7.out fun c => by rw [HMB6.out, HMB7.out]; exact And.comm
  have q4 : b9t = t10 := sorted_ext HSB9.out HT10.out.1 fun c => by
    rw [HMB9.out, HMB8.out, HMB6.out, tid_mem HT10.out]
    constructor
    · rintro (⟨h, _⟩ | ⟨h, _⟩) <;> exact h
    · intro h
      by_cases h2 : c ∈ L2
      · exact .inr ⟨h, h2⟩
      · exact .inl ⟨h, h2⟩
  subst q1 q2 q3 q4
  have eB1 : b1m = b2m := by have e1 := HB1_13.out.1; have e2 := HB2_13.out.1; rw [flat_length] at e1 e2; omega
  have eB3 : b3m = b5m := by have e1 := HB3_13.out.1; have e2 := HB5_13.out.1; rw [flat_length] at e1 e2; omega
  have eB6 : b6m = b7m := by have e1 := HB6_13.out.1; have e2 := HB7_13.out.1; rw [flat_length] at e1 e2; omega
  have eB9 : b9m = m10 := by have e1 := HB9_13.out.1; have e2 := HB10x_13.out.1; rw [flat_length] at e1 e2; omega
  subst eB1 eB3 eB6 eB9
  clear HMB1 HMB2 HMB3 HMB4 HMB5 HMB6 HMB7 HMB8 HMB9
  go_wp2_with fail
  (with_reducible refine (alive_true _).mono ?_)
  rintro e w114 ⟨rfl, hb⟩
  have HB14 : Hid (Below w.heap.size w w114) := HB13.out.trans (hb.mono HB13.out.size)
  have HB1_14 := Lib.hid (HB1_13.out.carry hb)
  have HB2_14 := Lib.hid (HB2_13.out.carry hb)
  have HB3_14 := Lib.hid (HB3_13.out.carry hb)
  have HB5_14 := Lib.hid (HB5_13.out.carry hb)
  have HB6_14 := Lib.hid (HB6_13.out.carry hb)
  have HB7_14 := Lib.hid (HB7_13.out.carry hb)
  have HB9_14 := Lib.hid (HB9_13.out.carry hb)
  have HB10x_14 := Lib.hid (HB10x_13.out.carry hb)
  clear hb HB13 HB1_13 HB2_13 HB3_13 HB5_13 HB6_13 HB7_13 HB9_13 HB10x_13
  go_wp2_with fail
  (with_reducible refine (same_below _ _ _ _ _ HB1_14.out HB2_14.out).mono ?_)
  rintro e w115 ⟨rfl, hb⟩
  have HB15 : Hid (Below w.heap.size w w115) := HB14.out.trans (hb.mono HB14.out.size)
  have HB1_15 := Lib.hid (HB1_14.out.carry hb)
  have HB2_15 := Lib.hid (HB2_14.out.carry hb)
  have HB3_15 := Lib.hid (HB3_14.out.carry hb)
  have HB5_15 := Lib.hid (HB5_14.out.carry hb)
  have HB6_15 := Lib.hid (HB6_14.out.carry hb)
  have HB7_15 := Lib.hid (HB7_14.out.carry hb)
  have HB9_15 := Lib.hid (HB9_14.out.carry hb)
  have HB10x_15 := Lib.hid (HB10x_14.out.carry hb)
  clear hb HB14 HB1_14 HB2_14 HB3_14 HB5_14 HB6_14 HB7_14 HB9_14 HB10x_14
  go_wp2_with fail
  (with_reducible refine (same_below _ _ _ _ _ HB3_15.out HB5_15.out).mono ?_)
  rintro e w116 ⟨rfl, hb⟩
  have HB16 : Hid (Below w.heap.size w w116) := HB15.out.trans (hb.mono HB15.out.size)
  have HB1_16 := Lib.hid (HB1_15.out.carry hb)
  have HB2_16 := Lib.hid (HB2_15.out.carry hb)
  have HB3_16 := Lib.hid (HB3_15.out.carry hb)
  have HB5_16 := Lib.hid (HB5_15.out.carry hb)
  have HB6_16 := Lib.hid (HB6_15.out.carry hb)
  have HB7_16 := Lib.hid (HB7_15.out.carry hb)
  have HB9_16 := Lib.hid (HB9_15.out.carry hb)
  have HB10x_16 := Lib.hid (HB10x_15.out.carry hb)
  clear hb HB15 HB1_15 HB2_15 HB3_15 HB5_15 HB6_15 HB7_15 HB9_15 HB10x_15
  go_wp2_with fail
  (with_reducible refine (same_below _ _ _ _ _ HB6_16.out HB7_16.out).mono ?_)
  rintro e w117 ⟨rfl, hb⟩
  have HB17 : Hid (Below w.heap.size w w117) := HB16.out.trans (hb.mono HB16.out.size)
  have HB1_17 := Lib.hid (HB1_16.out.carry hb)
  have HB2_17 := Lib.hid (HB2_16.out.carry hb)
  have HB3_17 := Lib.hid (HB3_16.out.carry hb)
  have HB5_17 := Lib.hid (HB5_16.out.carry hb)
  have HB6_17 := Lib.hid (HB6_16.out.carry hb)
  have HB7_17 := Lib.hid (HB7_16.out.carry hb)
  have HB9_17 := Lib.hid (HB9_16.out.carry hb)
  have HB10x_17 := Lib.hid (HB10x_16.out.carry hb)
  clear hb HB16 HB1_16 HB2_16 HB3_16 HB5_16 HB6_16 HB7_16 HB9_16 HB10x_16
  go_wp2_with fail
  (with_reducible refine (same_below _ _ _ _ _ HB9_17.out HB10x_17.out).mono ?_)
  rintro e w118 ⟨rfl, hb⟩
  have HB18 : Hid (Below w.heap.size w w118) := HB17.out.trans (hb.mono HB17.out.size)
  have HB1_18 := Lib.hid (HB1_17.out.carry hb)
  have HB2_18 := Lib.hid (HB2_17.out.carry hb)
  have HB3_18 := Lib.hid (HB3_17.out.carry hb)
  have HB5_18 := Lib.hid (HB5_17.out.carry hb)
  have HB6_18 := Lib.hid (HB6_17.out.carry hb)
  have HB7_18 := Lib.hid (HB7_17.out.carry hb)
  have HB9_18 := Lib.hid (HB9_17.out.carry hb)
  have HB10x_18 := Lib.hid (HB10x_17.out.carry hb)
  clear hb HB17 HB1_17 HB2_17 HB3_17 HB5_17 HB6_17 HB7_17 HB9_17 HB10x_17
  go_wp2
  go_ret
  exact ⟨rfl, HB18.out⟩
end Go.Proofs.Ytfoipadgicjcaaa
