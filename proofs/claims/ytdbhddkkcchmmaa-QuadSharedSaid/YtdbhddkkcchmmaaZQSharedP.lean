/- QuadShared: the walk. · lifelodgekeep.QuadShared: whatever its arguments: it returns true, and its arguments read behind the call as they read before. -/
import Derived.Test.YtdbhddkkcchmmaaZ9
import Derived.Test.YtdbhddkkcchmmaaZ6
import Derived.Test.YtdbhddkkcchmmaaZ5
import Derived.Test.YtdbhddkkcchmmaaZ1

namespace Go.Proofs.Ytdbhddkkcchmmaa
open Go.RowKit

theorem near_okC {l : List (Int × Int)} {most : Nat} {near : Int} (h : 0 < near) (h2 : near ≤ 1099511627775) : ∀ c ∈ someL l most near, okC c := fun c hc => by
  have := someL_near h hc
  unfold okC okZ; omega

set_option maxRecDepth 100000 in
set_option maxHeartbeats 3200000 in
theorem quadShared_any (W : World) (n : Nat) (v : Value) (l : List (Int × Int)) (t u : Int) (hR : Rd W W.heap.size 2 v n (flat l)) (hin : ∀ c ∈ l, inC c) (ht : -9223372036854775808 ≤ t ∧ t ≤ 9223372036854775807) (hu : -9223372036854775808 ≤ u ∧ u ≤ 9223372036854775807) :
    Calls Try.prog 3 #[v, .int .i64 t, .int .i64 u] W fun e W' => e = .returned (.bool true) ∧ Below W.heap.size W W' := by
  have H1 := Lib.hid (some_lit W n 200 200 rfl v l 549755813888 hR hin (by decide) (by decide) (by decide))
  have HOK := Lib.hid (near_okC (l := l) (most := 200) (near := 549755813888) (by decide) (by decide))
  have HLN : Hid ((someL l 200 549755813888).length = min 200 n) := by have := hR.pairs.1; show _ = _; rw [someL_length, this]
  have HT := Lib.hid ht
  have HU := Lib.hid hu
  clear hR hin ht hu
  go_enter Try.func3, Try.ntmps3
  go_wp2_with fail
  (with_reducible refine H1.out.mono ?_)
  rintro e w1 ⟨v1, rfl, hs1, hf1, hb1⟩
  generalize hL : someL l 200 549755813888 = L at hs1 HOK HLN
  have hm1 : min 200 n ≤ 200 := Nat.min_le_left _ _
  generalize min 200 n = m at hs1 HLN hm1
  have HS1 := Lib.hid hs1
  have HB1 := Lib.hid hb1
  have HM1 := Lib.hid hm1
  clear hs1 hf1 hb1 H1 hL hm1
  go_wp2_with fail
  (with_reducible refine (spot_any t 62 (by omega) (by omega) HT.out.1 HT.out.2 _).mono ?_)
  rintro e wq ⟨rfl, rfl⟩
  go_wp2_with fail
  (with_reducible refine (spot_any u 62 (by omega) (by omega) HU.out.1 HU.out.2 _).mono ?_)
  rintro e wq ⟨rfl, rfl⟩
  obtain ⟨tn, htn, htl⟩ : ∃ tn : Nat, t % 62 = tn ∧ tn < 62 := ⟨(t % 62).toNat, by omega, by omega⟩
  obtain ⟨un, hun, hul⟩ : ∃ un : Nat, u % 62 = un ∧ un < 62 := ⟨(u % 62).toNat, by omega, by omega⟩
  rw [htn, hun]
  have HTL := Lib.hid htl
  have HUL := Lib.hid hul
  clear htn hun htl hul HT HU
  go_wp2_with fail
  (with_reducible refine (begunQ_any w1).mono ?_)
  rintro e w2 ⟨p, R, S, A, rfl, hA, hn, hro, hqu, hV, hb2, hfr⟩
  have HA := Lib.hid hA
  have HN := Lib.hid hn
  have HRO := Lib.hid hro
  have HQU := Lib.hid hqu
  have HV := Lib.hid hV
  have HB2 := Lib.hid hb2
  have HFR := Lib.hid hfr
  clear hA hn hro hqu hV hb2 hfr
  go_wp2_with fail
  (with_reducible refine (from_any w2 p R S A HA.out tn (by have := HTL.out; omega) w1.heap.size m v1 L (HS1.out.rd.below HB2.out) HB2.out.size (by have := HM1.out; omega) HOK.out).mono ?_)
  rintro e w3 ⟨k, hk, hk40, r, S1, A1, R1, bad1, rfl, hm, hh, hA1, hst⟩
  obtain ⟨rfl, ⟨V1, hV1, hV1l⟩, _⟩ := made_fine (by omega) HV.out (by have := HLN.out; have := HM1.out; simp only [List.length_singleton]; omega) HRO.out (HQU.out tn (by have := HTL.out; omega)) hm
  rw [if_pos rfl]
  have HK := Lib.hid hk
  have HM := Lib.hid hm
  have HH := Lib.hid (hh rfl)
  have HA1 := Lib.hid hA1
  have HST := Lib.hid hst
  have HLV : Hid (S1.live < 200000) := by have h1 := hA1.rel.live_le hV1; have h2 := HLN.out; have h3 := HM1.out; simp only [List.length_singleton] at hV1l; show S1.live < 200000; omega
  clear hk hk40 hm hh hA1 hst hV1 hV1l HA HV
  go_wp2_with fail
  (with_reducible refine (live_any w3 p R1 S1 HA1.out.arm).mono ?_)
  rintro e wq ⟨rfl, rfl⟩
  go_wp2_with fail
  (with_reducible refine (count_any w3 p R1 S1 HA1.out.arm tn (by have := HTL.out; omega)).mono ?_)
  rintro e wq ⟨rfl, rfl⟩
  go_wp2_with fail
  obtain ⟨hb3, hf3⟩ := HST.out.low HB2.out.size HFR.out
  have HB3 := Lib.hid (HB2.out.trans hb3)
  have HF3 := Lib.hid hf3
  clear hb3 hf3 HST HFR HB2
  (with_reducible refine (from_any w3 p R1 S1 A1 HA1.out un (by have := HUL.out; omega) w1.heap.size m v1 L (HS1.out.rd.below HB3.out) HB3.out.size (by have := HM1.out; omega) HOK.out).mono ?_)
  rintro e w4 ⟨k2, hk, hk40, q, S2, A2, R2, bad2, rfl, hm, hh, hA2, hst⟩
  obtain rfl : k = k2 := leastK_unique HK.out hk (fun _ => Iff.rfl)
  have hrm : S1.live < S1.room := by rw [HM.out.st.room, HRO.out]; exact HLV.out
  have hqt : S1.live < S1.quota un := by rw [HM.out.st.quota, HQU.out un (by have := HUL.out; omega)]; exact HLV.out
  obtain ⟨V, v1', v2, v3, v4⟩ := HA1.out.rel.things
  obtain ⟨rfl, _⟩ := hm.enough V v2 (fun x hx => by obtain ⟨i, hi⟩ := HH.out.1.nodes x hx; exact v2 i x hi) (by omega) (by omega)
  obtain ⟨hpq, hl2, hc1, hc2⟩ := shared_law HTL.out HUL.out HN.out HM.out HH.out hm (hh rfl) hrm hqt
  rw [if_pos rfl]
  obtain ⟨hb4, _⟩ := hst.low HB3.out.size HF3.out
  have HB4 : Hid (Below W.heap.size W w4) := HB1.out.trans ((HB3.out.trans hb4).mono HB1.out.size)
  have HA2 := Lib.hid hA2
  subst hpq
  have HL2 := Lib.hid hl2
  have HC1 := Lib.hid hc1
  have HC2 := Lib.hid hc2
  clear hk hk40 hm hh hA2 hst hb4 hl2 hc1 hc2 hrm hqt v1' v2 v3 v4
  go_wp2_with fail
  (with_reducible refine (live_any w4 p R2 S2 HA2.out.arm).mono ?_)
  rintro e wq ⟨rfl, rfl⟩
  rw [HL2.out]
  go_wp2_with fail
  (with_reducible refine (count_any w4 p R2 S2 HA2.out.arm tn (by have := HTL.out; omega)).mono ?_)
  rintro e wq ⟨rfl, rfl⟩
  rw [HC1.out]
  go_wp2_with fail
  (with_reducible refine (count_any w4 p R2 S2 HA2.out.arm un (by have := HUL.out; omega)).mono ?_)
  rintro e wq ⟨rfl, rfl⟩
  rw [HC2.out]
  go_wp2_with fail
  go_ret
  exact ⟨rfl, HB4.out⟩
end Go.Proofs.Ytdbhddkkcchmmaa

namespace Go.Proofs.Ytdbhddkkcchmmaa
open Go.ChangeShapes Go.WideShapes Go.ChangeAt Go.RowKit

set_option maxRecDepth 100000 in
theorem quadShared_lifted (os : Os) (started : os.Started) (H : Type) (enc : TypeId × Value → H) :
    ReturnsInHanded {} Try.checked os 3 .any (Rows.quadSharedSpec.pre6 enc Try.prog Try.f3 Rows.quadSharedRow.domain false) (Rows.quadSharedSpec.post enc Try.prog Try.f3 false true false false) := by
  refine returnsInHanded_of_change_sized (C := Try.checked) Try.ownC started (by kernel_rfl) Try.func3
    (ChangeSpec.witness6 (enc := enc) (C := Try.checked) false ⟨#[], #[.slice none 0 0, .int .i64 0, .int .i64 0], []⟩ 8 (by kernel_rfl) (by kernel_rfl) (by kernel_rfl) (by kernel_rfl)) ?_
  intro W base args ds gs before hval0 hW hcnd hsz0 _
  have hval : ∀ (j : Nat) t v, Try.f3.params[j]? = some t → args[j]? = some v → Value.okWide Try.prog W .any base t v := hval0
  clear hsz0
  have hW' := hW
  obtain ⟨p, q, hA0, hV, rfl, hfz, hnd⟩ := hW
  have hA : DataW.TrodAll enc Try.prog W 0 (fun _ => true) true Try.f3.params.toList args.toList ds p := hA0
  rw [Try.params3] at hA hval
  obtain ⟨v0, v1, v2, d0, d1, d2, p0, p1, p2, rfl, rfl, rfl, h0, h1, h2⟩ := trodAll_three hA
  obtain ⟨rfl, rfl⟩ := trodVars_none hV
  obtain ⟨n0, l0, hR0, hin0, _⟩ := cells_of (hval 0 22 v0 rfl rfl) h0
  obtain ⟨x1, rfl, rfl, rfl, w1⟩ := open_int Try.underlying3 (hval 1 3 v1 rfl rfl) h1
  have hb1 : -9223372036854775808 ≤ x1 ∧ x1 ≤ 9223372036854775807 := by simpa [Lit.wf, IntKind.min, IntKind.max, IntKind.signed, IntKind.bits] using w1
  obtain ⟨x2, rfl, rfl, rfl, w2⟩ := open_int Try.underlying3 (hval 2 3 v2 rfl rfl) h2
  have hb2 : -9223372036854775808 ≤ x2 ∧ x2 ≤ 9223372036854775807 := by simpa [Lit.wf, IntKind.min, IntKind.max, IntKind.signed, IntKind.bits] using w2
  refine (quadShared_any W n0 v0 l0 x1 x2 hR0 hin0 hb1 hb2).mono fun e W' ⟨he, hb⟩ => ?_
  subst he
  exact ⟨_, rfl, law_post Try.laidOutC (by rw [Try.params3]; intro t ht; simp at ht; rcases ht with rfl | rfl | rfl <;> exact ⟨by kernel_rfl, of_decide_eq_true (by kernel_rfl)⟩) rfl hW' hb (tb := 4) rfl Try.underlying4 rfl rfl rfl⟩

theorem quadShared_holds : Rows.QuadSharedSaid :=
  OpenClaim.holds_of_wide 3 Try.f3 rfl rfl rfl rfl rfl rfl rfl ⟨rfl, rfl, rfl, rfl, rfl⟩ rfl rfl rfl rfl rfl (by kernel_rfl) Try.func3 (by kernel_rfl)
    (of_decide_eq_true (by kernel_rfl)) (by unfold Func.isWrapper; rw [if_neg (of_decide_eq_false (by kernel_rfl))]; exact ⟨rfl, rfl⟩)
    (fun os started H enc _ => quadShared_lifted os started H enc)
#print axioms quadShared_holds
end Go.Proofs.Ytdbhddkkcchmmaa
