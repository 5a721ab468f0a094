/- QuadOne: what the loops keep, in plain words. · The statements' own helpers: cells, alive. · QuadShared: the walk. · QuadOne: the walk. · lifelodgekeep.QuadOne: whatever its arguments: it returns true, and its arguments read behind the call as they read before. -/
import Derived.Test.YtdbhddkkcchmmaaZ11
import Derived.Test.YtdbhddkkcchmmaaZ6
import Derived.Test.YtdbhddkkcchmmaaZ9
import Derived.Test.YtdbhddkkcchmmaaZ5
import Derived.Test.YtdbhddkkcchmmaaZ1

namespace Go.Proofs.Ytdbhddkkcchmmaa
open Go.RowKit

/-- Two lists of the same cells. -/
def SameL (L l : List (Int × Int)) : Prop := ∀ c, c ∈ L ↔ c ∈ l
/-- A slice of our own that no arena's work touches. -/
theorem Rd.step {w w' : World} {p : Nat} {R R' : ArR} {v : Value} {n : Nat} {xs : List Value} (h : Rd w w.heap.size 2 v n xs) (hno : ∀ b, sblk v = some b → ¬ Own p R b) (hlt : ∀ b, sblk v = some b → b < w.heap.size) (hs : StepH NoX p R R' w w') :
    Rd w' w'.heap.size 2 v n xs ∧ (∀ b, sblk v = some b → ¬ Own p R' b) ∧ ∀ b, sblk v = some b → b < w'.heap.size := by
  have hsz := hs.mod.size
  obtain ⟨h1, A, cap, rfl, h2, h3, h4⟩ := h
  refine ⟨⟨h1, A, cap, rfl, h2, h3, fun hn => ?_⟩, fun b hb => hs.not (hlt b hb) (hno b hb), fun b hb => Nat.lt_of_lt_of_le (hlt b hb) hsz⟩
  obtain ⟨b, off, rfl, hb, hc⟩ := h4 hn
  refine ⟨b, off, rfl, by omega, fun j u hj => (hs.mod.cell (a := ⟨b, off + j, none⟩) hb fun ho => ?_).trans (hc j u hj)⟩
  rcases ho with ho | ho
  · exact hno b rfl ho
  · exact ho
theorem rootT_congr {P Q : Int → Int → Bool} {k : Nat} (h : ∀ a b, inB (k + 1) (-2 ^ k) (-2 ^ k) a b → P a b = Q a b) : rootT P k = rootT Q k := treeOf_congr h
/-- A wrapped root of a list that it reaches. -/
theorem clip_reach {l : List (Int × Int)} {k : Nat} (h : Reach2 k l) : rootT (clipP (setOfL l) k) (k + 1) = rootT (setOfL l) (k + 1) := rootT_congr fun a b _ => by
  unfold clipP
  by_cases hm : (a, b) ∈ l
  · have h1 := inB_root.1 (h (a, b) hm)
    rw [decide_eq_true h1, Bool.and_true]
  · have : setOfL l a b = false := decide_eq_false hm
    rw [this, Bool.false_and]
theorem set_snoc (l : List (Int × Int)) (a b : Int) : setP (setOfL l) a b true = setOfL (l ++ [(a, b)]) := by
  funext c d
  unfold setP setOfL
  by_cases e : c = a ∧ d = b
  · rw [if_pos e]; obtain ⟨rfl, rfl⟩ := e; simp
  · rw [if_neg e, decide_eq_decide]
    simp only [List.mem_append, List.mem_singleton, Prod.mk.injEq]
    exact ⟨.inl, fun h => h.resolve_right e⟩
/-- i cells are set, one by one. -/
structure OneI (W w1 : World) (p : Nat) (root : Int) (T0 : Tree) (L : List (Int × Int)) (v : Value) (i κ : Nat) (r : Int) (S : ArS) (A : Nat → Abs) (R : ArR) (wx : World) : Prop where
  ar : Ar wx p R S A
  has : Has S A 1 r (rootT (setOfL (L.take i)) κ)
  reach : Reach2 κ (L.take i)
  one : 1 ≤ κ
  few : κ ≤ 20
  old : Has S A 1 root T0
  vs : ∃ V, Within S V ∧ V.length ≤ 6000 + 25 * κ + 25 * i
  room : S.room = 200000
  quota : S.quota 1 = 200000
  rd : Rd wx wx.heap.size 2 v L.length (flat L)
  no : ∀ b, sblk v = some b → ¬ Own p R b
  lt : ∀ b, sblk v = some b → b < wx.heap.size
  low : Below w1.heap.size w1 wx
  own : ∀ b, Own p R b → w1.heap.size ≤ b
section
variable {W w1 wx wy : World} {p : Nat} {root r x : Int} {T0 : Tree} {L : List (Int × Int)} {v : Value} {i κ : Nat} {S S' : ArS} {A A' : Nat → Abs} {R R' : ArR} {bad : Int}
theorem OneI.put_ok (h : OneI W w1 p root T0 L v i κ r S A R wx) (hi : i < 120) {c : Int × Int} (hx : -2 ^ κ ≤ c.1 ∧ c.1 < 2 ^ κ) (hy : -2 ^ κ ≤ c.2 ∧ c.2 < 2 ^ κ) (hm : Made 1 (nodes (rootT (setP (setOfL (L.take i)) c.1 c.2 true) κ)) S A 0 S' A' bad) :
    bad = 0 ∧ ∃ V, Within S' V ∧ V.length ≤ 6000 + 25 * κ + 25 * (i + 1) := by
  obtain ⟨V, hV, hl⟩ := h.vs
  have hpw : (2 : Int) ^ (κ + 1) = 2 ^ κ * 2 := Int.pow_succ 2 κ
  obtain ⟨V2, g1, g2⟩ := put_few (setOfL (L.take i)) true (κ + 1) (-2 ^ κ) (-2 ^ κ) (c.1 + 2 ^ κ) (c.2 + 2 ^ κ) ⟨by omega, by omega⟩ ⟨by omega, by omega⟩
  rw [rootT_set] at g2
  have hf := h.few
  have hro := h.room
  have hqu := h.quota
  obtain ⟨q1, q2, _⟩ := hm.enough (V ++ V2) (fun j y hd => List.mem_append_left _ (hV j y hd)) (fun y hy => by
    rcases g2 y hy with q | q
    · exact List.mem_append_left _ (h.ar.rel.have_in (by decide) hV y (h.ar.rel.nodes_has (by decide) h.has.2 y q))
    · exact List.mem_append_right _ q) (by rw [List.length_append]; omega) (by rw [List.length_append]; omega)
  exact ⟨q1, _, q2, by rw [List.length_append]; omega⟩
theorem OneI.wrap_ok (h : OneI W w1 p root T0 L v i κ r S A R wx) (hi : i < 120) (hm : Made 1 (wrapL (setOfL (L.take i)) κ) S A 0 S' A' bad) :
    bad = 0 ∧ ∃ V, Within S' V ∧ V.length ≤ 6000 + 25 * (κ + 1) + 25 * i := by
  obtain ⟨V, hV, hl⟩ := h.vs
  have hf := h.few
  have hro := h.room
  have hqu := h.quota
  have hwl := wrapL_len (setOfL (L.take i)) κ
  obtain ⟨q1, q2, _⟩ := hm.enough (V ++ wrapL (setOfL (L.take i)) κ) (fun j y hd => List.mem_append_left _ (hV j y hd)) (fun y hy => List.mem_append_right _ hy) (by rw [List.length_append]; omega) (by rw [List.length_append]; omega)
  exact ⟨q1, _, q2, by rw [List.length_append]; omega⟩
theorem OneI.next (h : OneI W w1 p root T0 L v i κ r S A R wx) (ht : St 1 S A S' A') (ha : Ar wy p R' S' A') (hs : StepH NoX p R R' wx wy) {i' κ' : Nat} (hr : Has S' A' 1 x (rootT (setOfL (L.take i')) κ')) (hre : Reach2 κ' (L.take i')) (h1 : 1 ≤ κ') (h2 : κ' ≤ 20) (hv : ∃ V, Within S' V ∧ V.length ≤ 6000 + 25 * κ' + 25 * i') :
    OneI W w1 p root T0 L v i' κ' x S' A' R' wy := by
  obtain ⟨g1, g2, g3⟩ := h.rd.step h.no h.lt hs
  obtain ⟨g4, g5⟩ := hs.low h.low.size h.own
  exact ⟨ha, hr, hre, h1, h2, h.old.st (by decide) ht, hv, ht.room.trans h.room, by rw [ht.quota]; exact h.quota, g1, g2, g3, h.low.trans g4, g5⟩
theorem OneI.below (h : OneI W w1 p root T0 L v i κ r S A R wx) (hb : Below wx.heap.size wx wy) : OneI W w1 p root T0 L v i κ r S A R wy :=
  h.next (St.refl h.ar.rel 1) (h.ar.below hb) (StepH.of_below hb) h.has h.reach h.one h.few h.vs
/-- Peeled, it is the root made at once. -/
theorem one_end {l : List (Int × Int)} {k0 κ' : Nat} (h : OneI W w1 p root (rootT (setOfL l) k0) L v L.length κ r S A R wx) (hk0 : leastK l k0) (hperm : ∀ c, c ∈ L ↔ c ∈ l) (hk : 1 ≤ κ') (_hle : κ' ≤ κ) (hst : St 1 S A S' A') (hx : Has S' A' 1 x (rootT (setOfL (L.take L.length)) κ')) (hf : Fits (setOfL (L.take L.length)) κ κ') (hm : κ' = 1 ∨ ¬ Fits (setOfL (L.take L.length)) κ' (κ' - 1)) : x = root := by
  have hreach := h.reach
  rw [List.take_length] at hx hf hm hreach
  have hl : leastK L κ' := ⟨hk, fun c hc => hf c.1 c.2 (hreach c hc) (decide_eq_true hc), fun j h1 h2 h3 => by
    rcases hm with rfl | hm
    · omega
    · exact hm fun a b _ hp => root_mono (by omega) (h3 (a, b) (of_decide_eq_true hp))⟩
  have e := leastK_unique hl hk0 hperm
  subst e
  rw [setOfL_same hperm] at hx
  exact Den.inj hx.1 (h.old.st (by decide) hst).1
end
end Go.Proofs.Ytdbhddkkcchmmaa

namespace Go.Proofs.Ytdbhddkkcchmmaa
open Go.RowKit

/-- A copy in new memory. -/
def CopyPost (w : World) (n : Nat) (l : List (Int × Int)) (e : Ending) (w' : World) : Prop :=
  ∃ v', e = .returned v' ∧ Sl w' 35 2 v' n (flat l) ∧ (∀ b, sblk v' = some b → w.heap.size ≤ b) ∧ Below w.heap.size w w'

theorem cells_any (w : World) (B n : Nat) (v : Value) (l : List (Int × Int)) (h : Rd w B 2 v n (flat l)) (hn : n * 16 ≤ 140737488355328) :
    Calls Try.prog 14 #[v] w (CopyPost w n l) := by
  obtain ⟨A, cap, rfl, hc1, hc2⟩ := h.form
  have HR := Lib.hid h
  have HSL := Lib.hid (Sl.nil w 35 2)
  unfold maxLen at hc2
  clear h
  go_enter Try.func14, Try.ntmps14
  go_wp2_with (at_builtin; refine wpList_append_sl _ rfl (.const (.slice none 0 0)) (.tmp 3) 22 rfl 35 (.agg #[.int .i64 0, .int .i64 0]) 2 16 Try.underlying22 Try.info35 rfl (by decide) rfl HSL.out rfl HR.out flat_one (by omega) (by unfold maxLen; omega) ?_; intro v' w1 hs1 hm1 hd1)
  go_ret
  obtain ⟨f1, f2⟩ := fresh_of (w := w) (v := .slice none 0 0) hm1 hd1 (Below.refl _ _) (fun b hb => by simp [sblk] at hb)
  exact ⟨v', rfl, by simpa using hs1, f1, f2⟩
end Go.Proofs.Ytdbhddkkcchmmaa

namespace Go.Proofs.Ytdbhddkkcchmmaa
open Go.RowKit

theorem near_okC {l : List (Int × Int)} {most : Nat} {near : Int} (h : 0 < near) (h2 : near ≤ 1099511627775) : ∀ c ∈ someL l most near, okC c := fun c hc => by
  have := someL_near h hc
  unfold okC okZ; omega

set_option maxRecDepth 100000 in
set_option maxHeartbeats 3200000 in
theorem quadShared_any (W : World) (n : Nat) (v : Value) (l : List (Int × Int)) (t u : Int) (hR : Rd W W.heap.size 2 v n (flat l)) (hin : ∀ c ∈ l, inC c) (ht : -9223372036854775808 ≤ t ∧ t ≤ 9223372036854775807) (hu : -9223372036854775808 ≤ u ∧ u ≤ 9223372036854775807) :
    Calls Try.prog 3 #[v, .int .i64 t, .int .i64 u] W fun e W' => e = .returned (.bool true) ∧ Below W.heap.size W W' := by
  have H1 := Lib.hid (some_lit W n 200 200 rfl v l 549755813888 hR hin (by decide) (by decide) (by decide))
  have HOK := Lib.hid (near_okC (l := l) (most := 200) (near := 549755813888) (by decide) (by decide))
  have HLN : Hid ((someL l 200 549755813888).length = min 200 n) := by have := hR.pairs.1; show _ = _; rw [someL_length, this]
  have HT := Lib.hid ht
  have HU := Lib.hid hu
  clear hR hin ht hu
  go_enter Try.func3, Try.ntmps3
  go_wp2_with fail
  (with_reducible refine H1.out.mono ?_)
  rintro e w1 ⟨v1, rfl, hs1, hf1, hb1⟩
  generalize hL : someL l 200 549755813888 = L at hs1 HOK HLN
  have hm1 : min 200 n ≤ 200 := Nat.min_le_left _ _
  generalize min 200 n = m at hs1 HLN hm1
  have HS1 := Lib.hid hs1
  have HB1 := Lib.hid hb1
  have HM1 := Lib.hid hm1
  clear hs1 hf1 hb1 H1 hL hm1
  go_wp2_with fail
  (with_reducible refine (spot_any t 62 (by omega) (by omega) HT.out.1 HT.out.2 _).mono ?_)
  rintro e wq ⟨rfl, rfl⟩
  go_wp2_with fail
  (with_reducible refine (spot_any u 62 (by omega) (by omega) HU.out.1 HU.out.2 _).mono ?_)
  rintro e wq ⟨rfl, rfl⟩
  obtain ⟨tn, htn, htl⟩ : ∃ tn : Nat, t % 62 = tn ∧ tn < 62 := ⟨(t % 62).toNat, by omega, by omega⟩
  obtain ⟨un, hun, hul⟩ : ∃ un : Nat, u % 62 = un ∧ un < 62 := ⟨(u % 62).toNat, by omega, by omega⟩
  rw [htn, hun]
  have HTL := Lib.hid htl
  have HUL := Lib.hid hul
  clear htn hun htl hul HT HU
  go_wp2_with fail
  (with_reducible refine (begunQ_any w1).mono ?_)
  rintro e w2 ⟨p, R, S, A, rfl, hA, hn, hro, hqu, hV, hb2, hfr⟩
  have HA := Lib.hid hA
  have HN := Lib.hid hn
  have HRO := Lib.hid hro
  have HQU := Lib.hid hqu
  have HV := Lib.hid hV
  have HB2 := Lib.hid hb2
  have HFR := Lib.hid hfr
  clear hA hn hro hqu hV hb2 hfr
  go_wp2_with fail
  (with_reducible refine (from_any w2 p R S A HA.out tn (by have := HTL.out; omega) w1.heap.size m v1 L (HS1.out.rd.below HB2.out) HB2.out.size (by have := HM1.out; omega) HOK.out).mono ?_)
  rintro e w3 ⟨k, hk, hk40, r, S1, A1, R1, bad1, rfl, hm, hh, hA1, hst⟩
  obtain ⟨rfl, ⟨V1, hV1, hV1l⟩, _⟩ := made_fine (by omega) HV.out (by have := HLN.out; have := HM1.out; simp only [List.length_singleton]; omega) HRO.out (HQU.out tn (by have := HTL.out; omega)) hm
  rw [if_pos rfl]
  have HK := Lib.hid hk
  have HM := Lib.hid hm
  have HH := Lib.hid (hh rfl)
  have HA1 := Lib.hid hA1
  have HST := Lib.hid hst
  have HLV : Hid (S1.live < 200000) := by have h1 := hA1.rel.live_le hV1; have h2 := HLN.out; have h3 := HM1.out; simp only [List.length_singleton] at hV1l; show S1.live < 200000; omega
  clear hk hk40 hm hh hA1 hst hV1 hV1l HA HV
  go_wp2_with fail
  (with_reducible refine (live_any w3 p R1 S1 HA1.out.arm).mono ?_)
  rintro e wq ⟨rfl, rfl⟩
  go_wp2_with fail
  (with_reducible refine (count_any w3 p R1 S1 HA1.out.arm tn (by have := HTL.out; omega)).mono ?_)
  rintro e wq ⟨rfl, rfl⟩
  go_wp2_with fail
  obtain ⟨hb3, hf3⟩ := HST.out.low HB2.out.size HFR.out
  have HB3 := Lib.hid (HB2.out.trans hb3)
  have HF3 := Lib.hid hf3
  clear hb3 hf3 HST HFR HB2
  (with_reducible refine (from_any w3 p R1 S1 A1 HA1.out un (by have := HUL.out; omega) w1.heap.size m v1 L (HS1.out.rd.below HB3.out) HB3.out.size (by have := HM1.out; omega) HOK.out).mono ?_)
  rintro e w4 ⟨k2, hk, hk40, q, S2, A2, R2, bad2, rfl, hm, hh, hA2, hst⟩
  obtain rfl : k = k2 := leastK_unique HK.out hk (fun _ => Iff.rfl)
  have hrm : S1.live < S1.room := by rw [HM.out.st.room, HRO.out]; exact HLV.out
  have hqt : S1.live < S1.quota un := by rw [HM.out.st.quota, HQU.out un (by have := HUL.out; omega)]; exact HLV.out
  obtain ⟨V, v1', v2, v3, v4⟩ := HA1.out.rel.things
  obtain ⟨rfl, _⟩ := hm.enough V v2 (fun x hx => by obtain ⟨i, hi⟩ := HH.out.1.nodes x hx; exact v2 i x hi) (by omega) (by omega)
  obtain ⟨hpq, hl2, hc1, hc2⟩ := shared_law HTL.out HUL.out HN.out HM.out HH.out hm (hh rfl) hrm hqt
  rw [if_pos rfl]
  obtain ⟨hb4, _⟩ := hst.low HB3.out.size HF3.out
  have HB4 : Hid (Below W.heap.size W w4) := HB1.out.trans ((HB3.out.trans hb4).mono HB1.out.size)
  have HA2 := Lib.hid hA2
  subst hpq
  have HL2 := Lib.hid hl2
  have HC1 := Lib.hid hc1
  have HC2 := Lib.hid hc2
  clear hk hk40 hm hh hA2 hst hb4 hl2 hc1 hc2 hrm hqt v1' v2 v3 v4
  go_wp2_with fail
  (with_reducible refine (live_any w4 p R2 S2 HA2.out.arm).mono ?_)
  rintro e wq ⟨rfl, rfl⟩
  rw [HL2.out]
  go_wp2_with fail
  (with_reducible refine (count_any w4 p R2 S2 HA2.out.arm tn (by have := HTL.out; omega)).mono ?_)
  rintro e wq ⟨rfl, rfl⟩
  rw [HC1.out]
  go_wp2_with fail
  (with_reducible refine (count_any w4 p R2 S2 HA2.out.arm un (by have := HUL.out; omega)).mono ?_)
  rintro e wq ⟨rfl, rfl⟩
  rw [HC2.out]
  go_wp2_with fail
  go_ret
  exact ⟨rfl, HB4.out⟩
end Go.Proofs.Ytdbhddkkcchmmaa

namespace Go.Proofs.Ytdbhddkkcchmmaa
open Go.RowKit

theorem one_cast : ((1 : Nat) : Int) = 1 := rfl
theorem two_cast : ((2 : Nat) : Int) = 2 := rfl
theorem rd_nil (w : World) (B : Nat) : Rd w B 2 (.slice none 0 0) 0 (flat []) := ⟨rfl, none, 0, rfl, Nat.le_refl _, by unfold maxLen; omega, fun h => absurd h (Nat.lt_irrefl 0)⟩
theorem least_nil : leastK [] 1 := ⟨Nat.le_refl _, fun c hc => (by cases hc), fun j h1 h2 => by omega⟩

set_option maxRecDepth 100000 in
set_option maxHeartbeats 12800000 in
theorem quadOne_any (W : World) (n : Nat) (v : Value) (l : List (Int × Int)) (at_ : Int) (hR : Rd W W.heap.size 2 v n (flat l)) (hin : ∀ c ∈ l, inC c) (hat : -9223372036854775808 ≤ at_ ∧ at_ ≤ 9223372036854775807) :
    Calls Try.prog 7 #[v, .int .i64 at_] W fun e W' => e = .returned (.bool true) ∧ Below W.heap.size W W' := by
  have H1 := Lib.hid (some_lit W n 120 120 rfl v l 1048576 hR hin (by decide) (by decide) (by decide))
  have HOK := Lib.hid (near_okC (l := l) (most := 120) (near := 1048576) (by decide) (by decide))
  have HNR := Lib.hid (fun c => someL_near (l := l) (most := 120) (near := 1048576) (by decide) (c := c))
  have HLN : Hid ((someL l 120 1048576).length = min 120 n) := by have := hR.pairs.1; show _ = _; rw [someL_length, this]
  have HAT := Lib.hid hat
  clear hR hin hat
  go_enter Try.func7, Try.ntmps7
  go_wp2_with fail
  (with_reducible refine H1.out.mono ?_)
  rintro e w1 ⟨v1, rfl, hs1, hf1, hb1⟩
  generalize hL : someL l 120 1048576 = L0 at hs1 HOK HLN HNR
  have hm1 : min 120 n ≤ 120 := Nat.min_le_left _ _
  generalize min 120 n = m at hs1 HLN hm1
  have HS1 := Lib.hid hs1
  have HB1 := Lib.hid hb1
  have HM1 := Lib.hid hm1
  clear hs1 hf1 hb1 H1 hL hm1
  go_wp2_with fail
  (with_reducible refine (begunQ_any w1).mono ?_)
  rintro e w2 ⟨p, R, S, A, rfl, hA, hn, hro, hqu, hV, hb2, hfr⟩
  have HA := Lib.hid hA
  have HRO := Lib.hid hro
  have HQU := Lib.hid hqu
  have HV := Lib.hid hV
  have HB2 := Lib.hid hb2
  have HFR := Lib.hid hfr
  clear hA hn hro hqu hV hb2 hfr
  go_wp2_with fail
  have hfr := from_any w2 p R S A HA.out 1 (by decide) w1.heap.size m v1 L0 (HS1.out.rd.below HB2.out) HB2.out.size (by have := HM1.out; omega) HOK.out
  rw [one_cast] at hfr
  (with_reducible refine hfr.mono ?_)
  clear hfr
  rintro e w3 ⟨k0, hk, hk40, root, S1, A1, R1, bad1, rfl, hm, hh, hA1, hst⟩
  obtain ⟨rfl, ⟨V1, hV1, hV1l⟩, _⟩ := made_fine (by omega) HV.out (by have := HLN.out; have := HM1.out; simp only [List.length_singleton]; omega) HRO.out (HQU.out 1 (by decide)) hm
  rw [if_pos rfl]
  simp only [List.length_singleton] at hV1l
  obtain ⟨hb3, hf3⟩ := hst.low HB2.out.size HFR.out
  have HK0 := Lib.hid hk
  have HH1 := Lib.hid (hh rfl)
  have HA1 := Lib.hid hA1
  have HB3 := Lib.hid (HB2.out.trans hb3)
  have HF3 := Lib.hid hf3
  have HRQ : Hid (S1.room = 200000 ∧ S1.quota 1 = 200000) := ⟨hm.st.room.trans HRO.out, by rw [hm.st.quota]; exact HQU.out 1 (by decide)⟩
  have HV1 := Lib.hid hV1
  have HV1L := Lib.hid hV1l
  clear hk hk40 hm hh hA1 hst hV1 hV1l HA HV hb3 hf3 HB2 HFR HRO HQU
  go_wp2_with fail
  have hfr := from_any w3 p R1 S1 A1 HA1.out 1 (by decide) 0 0 (.slice none 0 0) [] (rd_nil w3 0) (Nat.zero_le _) (by decide) (fun c hc => by cases hc)
  rw [one_cast] at hfr
  (with_reducible refine hfr.mono ?_)
  clear hfr
  rintro e w4 ⟨k1, hk, hk40, r, S2, A2, R2, bad2, rfl, hm, hh, hA2, hst⟩
  obtain rfl : k1 = 1 := leastK_unique hk least_nil (fun _ => Iff.rfl)
  obtain ⟨rfl, ⟨V2, hV2, hV2l⟩, _⟩ := made_fine (by omega) HV1.out (by have := HV1L.out; have := HLN.out; have := HM1.out; simp only [List.length_nil]; omega) HRQ.out.1 HRQ.out.2 hm
  rw [if_pos rfl]
  simp only [List.length_nil] at hV2l
  obtain ⟨hb4, hf4⟩ := hst.low HB3.out.size HF3.out
  have HOS : Hid (∀ (Lz : List (Int × Int)) (vz : Value) (wz : World), Below w4.heap.size w4 wz → Rd wz wz.heap.size 2 vz Lz.length (flat Lz) → (∀ b, sblk vz = some b → ¬ Own p R2 b) → (∀ b, sblk vz = some b → b < wz.heap.size) → OneI W w1 p root (rootT (setOfL L0) k0) Lz vz 0 1 r S2 A2 R2 wz) := fun Lz vz wz hb hrd hno hlt =>
    ⟨hA2.below hb, by rw [List.take_zero]; exact hh rfl, fun c hc => by simp at hc, Nat.le_refl _, by decide, HH1.out.st (by decide) hm.st, ⟨V2, hV2, by have h1 := HV1L.out; have h2 := HLN.out; have h3 := HM1.out; omega⟩, hm.st.room.trans HRQ.out.1, by rw [hm.st.quota]; exact HRQ.out.2, hrd, hno, hlt, (HB3.out.trans hb4).trans (hb.mono (HB3.out.trans hb4).size), hf4⟩
  have HB4 := Lib.hid (HB3.out.trans hb4)
  have HF4 := Lib.hid hf4
  have HOWN : Hid (∀ b, w4.heap.size ≤ b → ¬ Own p R2 b) := fun b hb ho => by have := hA2.arm.own_lt ho; omega
  obtain ⟨A1v, cap1, rfl, hc1, hc2⟩ := HS1.out.form
  have HR4 := Lib.hid (HS1.out.rd.below HB4.out)
  have HNO1 : Hid (∀ b, sblk (.slice A1v m cap1) = some b → ¬ Own p R2 b) := fun b hb ho => by have h1 := hf4 b ho; have h2 := (HS1.out.lt hb).1; omega
  have HLT1 : Hid (∀ b, sblk (.slice A1v m cap1) = some b → b < w4.heap.size) := fun b hb => Nat.lt_of_lt_of_le (HS1.out.lt hb).1 HB4.out.size
  clear hk hk40 hm hh hA2 hst hV2 hV2l hb4 hf4 HB3 HF3 HA1 HH1 HV1 HV1L HRQ
  unfold maxLen at hc2
  by_cases hm0 : m = 0
  · have hmf : decide ((0 : Int) < (m : Int)) = false := decide_eq_false (by omega)
    have hmg : decide (0 < m) = false := decide_eq_false (by omega)
    have HPM : Hid (SameL L0 L0) := fun c => Iff.rfl
    have HL0 : Hid (L0.length = m) := HLN.out
    have HO := Lib.hid (HOS.out L0 (.slice A1v m cap1) w4 (Below.refl _ _) (by rw [HLN.out]; exact HR4.out.more HB4.out.size) HNO1.out HLT1.out)
    clear HOS HR4 HNO1 HLT1 hm0
    have HRNG : Hid (∀ c ∈ L0, (-1048576 ≤ c.1 ∧ c.1 < 1048576) ∧ -1048576 ≤ c.2 ∧ c.2 < 1048576) := fun c hc => HNR.out c ((HPM.out c).1 hc)
    go_wp2_with fail
    go_loopw [56, 9] (fun iv ov wx => ∃ (i κ : Nat) (r : Int) (S : ArS) (A : Nat → Abs) (R : ArR), iv = .int .i64 i ∧ i ≤ m ∧ ov = .int .i64 r ∧ OneI W w1 p root (rootT (setOfL L0) k0) L0 (.slice A1v m cap1) i κ r S A R wx) (fun iv _ _ => m - (intOf iv).toNat)
    case atStart => exact ⟨0, 1, r, S2, A2, R2, rfl, Nat.zero_le _, rfl, HO.out⟩
    case round =>
      obtain ⟨i, κ, r, S, A, R, rfl, hi, rfl, hI⟩ := hrel
      have HI := Lib.hid hI
      clear hI
      by_cases hlt : i < m
      · obtain ⟨b4, off4, cp, he4, _, _, hb4, hcs4⟩ := HI.out.rd.pairs.2 (by have := HL0.out; omega)
        rw [HL0.out] at he4 hcs4
        injection he4 with he5 _ he6
        subst he5 he6
        obtain ⟨d0, d1⟩ := hcs4 i hlt
        have hci : L0[i]? = some L0[i]! := by have := HL0.out; rw [List.getElem!_eq_getElem?_getD, List.getElem?_eq_getElem (by omega)]; rfl
        generalize hck : L0[i]! = c at d0 d1 hci
        obtain ⟨cx, cy⟩ := c
        have HCI := Lib.hid hci
        have HCR := Lib.hid (HRNG.out (cx, cy) (List.mem_of_getElem? hci))
        have HTK : Hid (L0.take (i + 1) = L0.take i ++ [(cx, cy)]) := by
          show L0.take (i + 1) = L0.take i ++ [(cx, cy)]
          obtain ⟨hl, he⟩ := List.getElem?_eq_some_iff.1 hci
          rw [List.take_succ_eq_append_getElem hl, he]
        have HLT := Lib.hid hlt
        have hlt2 : (i : Int) < m := by omega
        have hwi := wrap_nat' i (by have := HM1.out; unfold maxLen; omega)
        have HI5 := Lib.hid (HI.out.below ((Below.refl wr.heap.size wr).alloc (Nat.le_refl _) (.cells #[.int .i64 cx, .int .i64 cy] 35)))
        have HC5 := Lib.hid (Blk.new wr 35 #[.int .i64 cx, .int .i64 cy])
        have HCN : Hid (¬ Own p R wr.heap.size) := fun ho => Nat.lt_irrefl _ (HI.out.ar.arm.own_lt ho)
        clear hck hci hlt hi hcs4 hb4
        go_wp2_with fail
        generalize World.alloc wr _ = w5 at HI5 HC5 ⊢
        clear d0 d1
        generalize wr.heap.size = cb at HC5 HCN ⊢
        obtain ⟨wo, hwo⟩ : ∃ wo : World, wo = wr := ⟨_, rfl⟩
        clear hwo
        go_loopw [60, 9] (fun jv ov wx => ∃ (j κ : Nat) (r : Int) (S : ArS) (A : Nat → Abs) (R : ArR), jv = .int .i64 j ∧ j + 1 ≤ κ ∧ ov = .int .i64 r ∧ OneI W w1 p root (rootT (setOfL L0) k0) L0 (.slice (some ⟨b4, off4, none⟩) m cap1) i κ r S A R wx ∧ Blk wx cb 35 #[.int .i64 cx, .int .i64 cy] ∧ ¬ Own p R cb) (fun jv _ _ => 30 - (intOf jv).toNat)
        case atStart => exact ⟨0, κ, r, S, A, R, rfl, HI5.out.one, rfl, HI5.out, HC5.out, HCN.out⟩
        case round =>
          obtain ⟨j, κ, r, S, A, R, rfl, hj, rfl, hI, hC, hN⟩ := hrel
          have HI2 := Lib.hid hI
          have HC2 := Lib.hid hC
          have HN2 := Lib.hid hN
          have HJK := Lib.hid hj
          have hj30 : (j : Int) < 30 := by have := hI.few; omega
          have hwj := wrap_nat' j (by have := hI.few; unfold maxLen; omega)
          have x0 := hC.cellS (i := 0) rfl
          have x1 := hC.cellS (i := 1) rfl
          clear hI hC hN hj
          by_cases hin : (-2 ^ κ ≤ cx ∧ cx < 2 ^ κ) ∧ -2 ^ κ ≤ cy ∧ cy < 2 ^ κ
          · have hq := putR_in wr p R S A HI2.out.ar 1 (by decide) (setOfL (L0.take i)) κ (by have := HI2.out.few; omega) r HI2.out.has cx cy hin.1 hin.2 true
            rw [one_cast] at hq
            have HP := Lib.hid hq
            clear hq
            have HIN := Lib.hid hin
            have HRX : Hid (Reach2 κ (L0.take i ++ [(cx, cy)])) := by
              intro c hc
              rcases List.mem_append.1 hc with q | q
              · exact HI2.out.reach c q
              · rw [List.mem_singleton.1 q]; exact inB_root.2 ⟨HIN.out.1.1, HIN.out.1.2, HIN.out.2.1, HIN.out.2.2⟩
            have HRX : Hid (Reach2 κ (L0.take i ++ [(cx, cy)])) := by
              intro c hc
              rcases List.mem_append.1 hc with q | q
              · exact HI2.out.reach c q
              · rw [List.mem_singleton.1 q]; exact inB_root.2 ⟨HIN.out.1.1, HIN.out.1.2, HIN.out.2.1, HIN.out.2.2⟩
            have HRX : Hid (Reach2 κ (L0.take i ++ [(cx, cy)])) := by
              intro c hc
              rcases List.mem_append.1 hc with q | q
              · exact HI2.out.reach c q
              · rw [List.mem_singleton.1 q]; exact inB_root.2 ⟨HIN.out.1.1, HIN.out.1.2, HIN.out.2.1, HIN.out.2.2⟩
            have HRX : Hid (Reach2 κ (L0.take i ++ [(cx, cy)])) := by
              intro c hc
              rcases List.mem_append.1 hc with q | q
              · exact HI2.out.reach c q
              · rw [List.mem_singleton.1 q]; exact inB_root.2 ⟨HIN.out.1.1, HIN.out.1.2, HIN.out.2.1, HIN.out.2.2⟩
            clear hin
            go_wp2_with fail
            (with_reducible refine HP.out.mono ?_)
            rintro e w6 ⟨r2, S3, A3, R3, bad3, rfl, hm, hh, ha, hst⟩
            obtain ⟨rfl, hv⟩ := HI2.out.put_ok (c := (cx, cy)) (by have := HLT.out; have := HM1.out; omega) HIN.out.1 HIN.out.2 hm
            rw [if_pos rfl]
            have HNX : Hid (OneI W w1 p root (rootT (setOfL L0) k0) L0 (.slice (some ⟨b4, off4, none⟩) m cap1) (i + 1) κ r2 S3 A3 R3 w6) := HI2.out.next hm.st ha hst (by rw [HTK.out, ← set_snoc]; exact hh rfl) (by rw [HTK.out]; exact HRX.out) HI2.out.one HI2.out.few hv
            clear hm hh ha hst hv HP x0 x1
            go_wp2_with fail
            go_roundw
            case rel => exact ⟨i + 1, κ, r2, S3, A3, R3, by go_num, HLT.out, rfl, HNX.out⟩
            case measure => simp [intOf]; have := HLT.out; omega
          · have hq := putR_out wr p R S A HI2.out.ar 1 (by decide) (setOfL (L0.take i)) κ (by have := HI2.out.few; omega) r HI2.out.has cx cy hin true
            rw [one_cast] at hq
            have HP := Lib.hid hq
            clear hq
            have hk19 : κ + 1 ≤ 20 := by
              have h1 := HI2.out.few
              by_cases e : κ = 20
              · exfalso
                apply hin
                have := HCR.out
                rw [e, show (2 : Int) ^ 20 = 1048576 by decide]
                exact ⟨⟨by omega, by omega⟩, by omega, by omega⟩
              · omega
            have HK19 := Lib.hid hk19
            clear hin hk19
            go_wp2_with fail
            (with_reducible refine HP.out.mono ?_)
            rintro e w6 ⟨rfl, ha6, hst6⟩
            have HI6 := Lib.hid (HI2.out.next (St.refl HI2.out.ar.rel 1) ha6 hst6 HI2.out.has HI2.out.reach HI2.out.one HI2.out.few HI2.out.vs)
            have HC6 : Hid (Blk w6 cb 35 #[.int .i64 cx, .int .i64 cy]) := HC2.out.mod hst6.mod (fun ho => by
              rcases ho with ho | ho
              · exact HN2.out ho
              · exact ho)
            have HN6 : Hid (¬ Own p R cb) := HN2.out
            have hq := wrap_any w6 p R S A ha6 1 (by decide) (setOfL (L0.take i)) κ (by have := HI2.out.few; omega) r HI2.out.has
            rw [one_cast] at hq
            have HWR := Lib.hid hq
            clear hq
            clear ha6 hst6 HP x0 x1
            go_wp2_with fail
            (with_reducible refine HWR.out.mono ?_)
            rintro e w7 ⟨r2, S3, A3, R3, bad3, rfl, hm, hh, ha, hst⟩
            obtain ⟨rfl, hv⟩ := HI6.out.wrap_ok (by have := HLT.out; have := HM1.out; omega) hm
            rw [if_pos rfl]
            have HNX : Hid (OneI W w1 p root (rootT (setOfL L0) k0) L0 (.slice (some ⟨b4, off4, none⟩) m cap1) i (κ + 1) r2 S3 A3 R3 w7) := HI6.out.next hm.st ha hst (by rw [← clip_reach HI6.out.reach]; exact hh rfl) (fun c hc => root_mono (Nat.le_succ κ) (HI6.out.reach c hc)) (by omega) HK19.out hv
            have HC7 : Hid (Blk w7 cb 35 #[.int .i64 cx, .int .i64 cy]) := HC6.out.mod hst.mod (fun ho => by
              rcases ho with ho | ho
              · exact HN6.out ho
              · exact ho)
            have HN7 : Hid (¬ Own p R3 cb) := hst.not HC6.out.lt HN6.out
            clear hm hh ha hst hv HWR
            go_wp2_with fail
            go_roundw
            case rel => exact ⟨j + 1, κ + 1, r2, S3, A3, R3, by go_num, by have := HJK.out; omega, rfl, HNX.out, HC7.out, HN7.out⟩
            case measure => simp [intOf]; have := HJK.out; have := HK19.out; omega
      · have hi5 : i = m := by omega
        subst hi5
        have hq := peel_any wr p R S A HI.out.ar 1 (by decide) (setOfL (L0.take i)) κ HI.out.one (by have := HI.out.few; omega) r HI.out.has
        rw [one_cast] at hq
        have HPE := Lib.hid hq
        clear hq
        clear hlt hi
        go_wp2_with fail
        (with_reducible refine HPE.out.mono ?_)
        rintro e w7 ⟨κ', LL, r2, S3, A3, R3, bad3, rfl, g1, g2, g3, hm, hh, ha, hst⟩
        obtain ⟨V, hV, hVl⟩ := HI.out.vs
        have hbd : bad3 = 0 := (hm.enough (V ++ LL) (fun j y hd => List.mem_append_left _ (hV j y hd)) (fun y hy => List.mem_append_right _ hy) (by rw [List.length_append, HI.out.room]; have := HI.out.few; have := HM1.out; omega) (by rw [List.length_append, HI.out.quota]; have := HI.out.few; have := HM1.out; omega)).1
        subst hbd
        rw [if_pos rfl]
        obtain ⟨q1, q2, q3⟩ := hh rfl
        have HI9 := HI.out
        rw [← HL0.out] at HI9
        have hx : r2 = root := one_end HI9 HK0.out HPM.out g1 g2 hm.st (by rw [HL0.out]; exact q1) (by rw [HL0.out]; exact q2) (by rw [HL0.out]; exact q3)
        subst hx
        have HB7 : Hid (Below W.heap.size W w7) := HB1.out.trans ((HI.out.low.trans (hst.low HI.out.low.size HI.out.own).1).mono HB1.out.size)
        clear HI9 q1 q2 q3 hm hh ha hst hV hVl g1 g2 g3 HPE
        go_wp2_with fail
        go_ret
        exact ⟨rfl, HB7.out⟩
  · have hmf : decide ((0 : Int) < (m : Int)) = true := decide_eq_true (by omega)
    have hmg : decide (0 < m) = true := decide_eq_true (by omega)
    go_wp2_with fail
    (with_reducible refine (spot_any at_ (m : Int) (by omega) (by have := HM1.out; omega) HAT.out.1 HAT.out.2 _).mono ?_)
    rintro e wq ⟨rfl, rfl⟩
    obtain ⟨k, hk⟩ : ∃ k : Nat, (k : Int) = at_ % m := ⟨(at_ % m).toNat, by have := Int.emod_nonneg at_ (show (m : Int) ≠ 0 by omega); omega⟩
    have hkn : k < m := by have := Int.emod_lt_of_pos at_ (show (0 : Int) < m by omega); omega
    rw [← hk]
    clear hk
    obtain ⟨b, off, cap', he, _, _, hb1, hcs⟩ := (HR4.out.pairs).2 (by omega)
    injection he with he1 he2 he3
    subst he1 he3
    have HD : Hid (Rd w4 w1.heap.size 2 (.slice (some ⟨b, off + k * 2, none⟩) (m - k) (cap1 - k)) (m - k) (flat (L0.drop k))) := HR4.out.cut (by omega)
    have HTK : Hid (Rd w4 w1.heap.size 2 (.slice (some ⟨b, off, none⟩) k cap1) k (flat (L0.take k))) := HR4.out.upto (by omega)
    have HSZ := Lib.hid HB4.out.size
    have HKM := Lib.hid hkn
    have HPM : Hid (SameL (L0.drop k ++ L0.take k) L0) := fun c => by
      rw [List.mem_append]
      constructor
      · rintro (h | h)
        · exact List.mem_of_mem_drop h
        · exact List.mem_of_mem_take h
      · intro h
        rw [← List.take_append_drop k L0, List.mem_append] at h
        exact h.symm
    have HL4 : Hid ((L0.drop k ++ L0.take k).length = m) := by show (L0.drop k ++ L0.take k).length = m; rw [List.length_append, List.length_drop, List.length_take, HLN.out]; omega
    have hk0 : (0 : Int) ≤ (k : Int) := by omega
    have hk1 : (k : Int) ≤ (m : Int) := by omega
    have hk2 : (m : Int) ≤ (cap1 : Int) := by omega
    have hk3 : ¬ cap1 = k := by omega
    have hk4 : (k : Int) ≤ (cap1 : Int) := by omega
    have hkd : Hid (m - k + k = m) := Nat.sub_add_cancel (Nat.le_of_lt hkn)
    have HBY : Hid ((m - k + k) * 16 ≤ 140737488355328 ∧ m - k + k ≤ maxLen ∧ (m - k) * 16 ≤ 140737488355328) := by have := HM1.out; unfold maxLen; refine ⟨by omega, by omega, by omega⟩
    clear hcs hb1 hkn HR4 HNO1 HLT1
    go_wp2_with fail
    go_region_held3 (fun _ => True) (trivial)
      (first
        | (go_at_call 14; refine (cells_any _ w1.heap.size (m - k) _ (L0.drop k) (by exact HD.out) HBY.out.2.2).mono ?_; rintro e w5 ⟨v3, rfl, hs3, hf3, hb3⟩; obtain ⟨A3, cap3, rfl, p1, p2⟩ := hs3.form)
        | (refine step_append_sl _ rfl (.tmp 49) (.tmp 52) 22 rfl 35 (.agg #[.int .i64 0, .int .i64 0]) 2 16 Try.underlying22 Try.info35 rfl (by decide) rfl hs3 rfl (HTK.out.keep fun x hx => hb3.block x (by have := HSZ.out; show x < w4.heap.size; omega)) flat_one HBY.out.1 HBY.out.2.1 ?_; intro v4 w6 hs4 hm4 hd4; rw [hkd.out, ← flat_append] at hs4; obtain ⟨A4, cap4, rfl, q1, q2⟩ := hs4.form))
    all_goals (
      have hb3' : Below w4.heap.size w4 w5 := ⟨hb3.os, hb3.tape, hb3.output, hb3.size, hb3.block⟩
      obtain ⟨x1, x2⟩ := fresh_of (w := w4) hm4 hd4 hb3' hf3
      have HO := Lib.hid (HOS.out (L0.drop k ++ L0.take k) (.slice A4 m cap4) w6 x2 (by rw [HL4.out]; exact hs4.rd) (fun b hb => HOWN.out b (x1 b hb)) (fun b hb => (hs4.lt hb).1))
      clear hb3 hb3' hm4 hd4 hs3 hf3 hs4 x1 x2 HOS
      generalize L0.drop k ++ L0.take k = L4 at HO HL4 HPM
      have HRNG : Hid (∀ c ∈ L4, (-1048576 ≤ c.1 ∧ c.1 < 1048576) ∧ -1048576 ≤ c.2 ∧ c.2 < 1048576) := fun c hc => HNR.out c ((HPM.out c).1 hc)
      go_wp2_with fail
      go_loopw [56, 9] (fun iv ov wx => ∃ (i κ : Nat) (r : Int) (S : ArS) (A : Nat → Abs) (R : ArR), iv = .int .i64 i ∧ i ≤ m ∧ ov = .int .i64 r ∧ OneI W w1 p root (rootT (setOfL L0) k0) L4 (.slice A4 m cap4) i κ r S A R wx) (fun iv _ _ => m - (intOf iv).toNat)
      case atStart => exact ⟨0, 1, r, S2, A2, R2, rfl, Nat.zero_le _, rfl, HO.out⟩
      case round =>
        obtain ⟨i, κ, r, S, A, R, rfl, hi, rfl, hI⟩ := hrel
        have HI := Lib.hid hI
        clear hI
        by_cases hlt : i < m
        · obtain ⟨b4, off4, cp, he4, _, _, hb4, hcs4⟩ := HI.out.rd.pairs.2 (by have := HL4.out; omega)
          rw [HL4.out] at he4 hcs4
          injection he4 with he5 _ he6
          subst he5 he6
          obtain ⟨d0, d1⟩ := hcs4 i hlt
          have hci : L4[i]? = some L4[i]! := by have := HL4.out; rw [List.getElem!_eq_getElem?_getD, List.getElem?_eq_getElem (by omega)]; rfl
          generalize hck : L4[i]! = c at d0 d1 hci
          obtain ⟨cx, cy⟩ := c
          have HCI := Lib.hid hci
          have HCR := Lib.hid (HRNG.out (cx, cy) (List.mem_of_getElem? hci))
          have HTK : Hid (L4.take (i + 1) = L4.take i ++ [(cx, cy)]) := by
            show L4.take (i + 1) = L4.take i ++ [(cx, cy)]
            obtain ⟨hl, he⟩ := List.getElem?_eq_some_iff.1 hci
            rw [List.take_succ_eq_append_getElem hl, he]
          have HLT := Lib.hid hlt
          have hlt2 : (i : Int) < m := by omega
          have hwi := wrap_nat' i (by have := HM1.out; unfold maxLen; omega)
          have HI5 := Lib.hid (HI.out.below ((Below.refl wr.heap.size wr).alloc (Nat.le_refl _) (.cells #[.int .i64 cx, .int .i64 cy] 35)))
          have HC5 := Lib.hid (Blk.new wr 35 #[.int .i64 cx, .int .i64 cy])
          have HCN : Hid (¬ Own p R wr.heap.size) := fun ho => Nat.lt_irrefl _ (HI.out.ar.arm.own_lt ho)
          clear hck hci hlt hi hcs4 hb4
          go_wp2_with fail
          generalize World.alloc wr _ = w5 at HI5 HC5 ⊢
          clear d0 d1
          generalize wr.heap.size = cb at HC5 HCN ⊢
          obtain ⟨wo, hwo⟩ : ∃ wo : World, wo = wr := ⟨_, rfl⟩
          clear hwo
          go_loopw [60, 9] (fun jv ov wx => ∃ (j κ : Nat) (r : Int) (S : ArS) (A : Nat → Abs) (R : ArR), jv = .int .i64 j ∧ j + 1 ≤ κ ∧ ov = .int .i64 r ∧ OneI W w1 p root (rootT (setOfL L0) k0) L4 (.slice (some ⟨b4, off4, none⟩) m cap4) i κ r S A R wx ∧ Blk wx cb 35 #[.int .i64 cx, .int .i64 cy] ∧ ¬ Own p R cb) (fun jv _ _ => 30 - (intOf jv).toNat)
          case atStart => exact ⟨0, κ, r, S, A, R, rfl, HI5.out.one, rfl, HI5.out, HC5.out, HCN.out⟩
          case round =>
            obtain ⟨j, κ, r, S, A, R, rfl, hj, rfl, hI, hC, hN⟩ := hrel
            have HI2 := Lib.hid hI
            have HC2 := Lib.hid hC
            have HN2 := Lib.hid hN
            have HJK := Lib.hid hj
            have hj30 : (j : Int) < 30 := by have := hI.few; omega
            have hwj := wrap_nat' j (by have := hI.few; unfold maxLen; omega)
            have x0 := hC.cellS (i := 0) rfl
            have x1 := hC.cellS (i := 1) rfl
            clear hI hC hN hj
            by_cases hin : (-2 ^ κ ≤ cx ∧ cx < 2 ^ κ) ∧ -2 ^ κ ≤ cy ∧ cy < 2 ^ κ
            · have hq := putR_in wr p R S A HI2.out.ar 1 (by decide) (setOfL (L4.take i)) κ (by have := HI2.out.few; omega) r HI2.out.has cx cy hin.1 hin.2 true
              rw [one_cast] at hq
              have HP := Lib.hid hq
              clear hq
              have HIN := Lib.hid hin
              have HRX : Hid (Reach2 κ (L4.take i ++ [(cx, cy)])) := by
                intro c hc
                rcases List.mem_append.1 hc with q | q
                · exact HI2.out.reach c q
                · rw [List.mem_singleton.1 q]; exact inB_root.2 ⟨HIN.out.1.1, HIN.out.1.2, HIN.out.2.1, HIN.out.2.2⟩
              have HRX : Hid (Reach2 κ (L4.take i ++ [(cx, cy)])) := by
                intro c hc
                rcases List.mem_append.1 hc with q | q
                · exact HI2.out.reach c q
                · rw [List.mem_singleton.1 q]; exact inB_root.2 ⟨HIN.out.1.1, HIN.out.1.2, HIN.out.2.1, HIN.out.2.2⟩
              have HRX : Hid (Reach2 κ (L4.take i ++ [(cx, cy)])) := by
                intro c hc
                rcases List.mem_append.1 hc with q | q
                · exact HI2.out.reach c q
                · rw [List.mem_singleton.1 q]; exact inB_root.2 ⟨HIN.out.1.1, HIN.out.1.2, HIN.out.2.1, HIN.out.2.2⟩
              have HRX : Hid (Reach2 κ (L4.take i ++ [(cx, cy)])) := by
                intro c hc
                rcases List.mem_append.1 hc with q | q
                · exact HI2.out.reach c q
                · rw [List.mem_singleton.1 q]; exact inB_root.2 ⟨HIN.out.1.1, HIN.out.1.2, HIN.out.2.1, HIN.out.2.2⟩
              clear hin
              go_wp2_with fail
              (with_reducible refine HP.out.mono ?_)
              rintro e w6 ⟨r2, S3, A3, R3, bad3, rfl, hm, hh, ha, hst⟩
              obtain ⟨rfl, hv⟩ := HI2.out.put_ok (c := (cx, cy)) (by have := HLT.out; have := HM1.out; omega) HIN.out.1 HIN.out.2 hm
              rw [if_pos rfl]
              have HNX : Hid (OneI W w1 p root (rootT (setOfL L0) k0) L4 (.slice (some ⟨b4, off4, none⟩) m cap4) (i + 1) κ r2 S3 A3 R3 w6) := HI2.out.next hm.st ha hst (by rw [HTK.out, ← set_snoc]; exact hh rfl) (by rw [HTK.out]; exact HRX.out) HI2.out.one HI2.out.few hv
              clear hm hh ha hst hv HP x0 x1
              go_wp2_with fail
              go_roundw
              case rel => exact ⟨i + 1, κ, r2, S3, A3, R3, by go_num, HLT.out, rfl, HNX.out⟩
              case measure => simp [intOf]; have := HLT.out; omega
            · have hq := putR_out wr p R S A HI2.out.ar 1 (by decide) (setOfL (L4.take i)) κ (by have := HI2.out.few; omega) r HI2.out.has cx cy hin true
              rw [one_cast] at hq
              have HP := Lib.hid hq
              clear hq
              have hk19 : κ + 1 ≤ 20 := by
                have h1 := HI2.out.few
                by_cases e : κ = 20
                · exfalso
                  apply hin
                  have := HCR.out
                  rw [e, show (2 : Int) ^ 20 = 1048576 by decide]
                  exact ⟨⟨by omega, by omega⟩, by omega, by omega⟩
                · omega
              have HK19 := Lib.hid hk19
              clear hin hk19
              go_wp2_with fail
              (with_reducible refine HP.out.mono ?_)
              rintro e w6 ⟨rfl, ha6, hst6⟩
              have HI6 := Lib.hid (HI2.out.next (St.refl HI2.out.ar.rel 1) ha6 hst6 HI2.out.has HI2.out.reach HI2.out.one HI2.out.few HI2.out.vs)
              have HC6 : Hid (Blk w6 cb 35 #[.int .i64 cx, .int .i64 cy]) := HC2.out.mod hst6.mod (fun ho => by
                rcases ho with ho | ho
                · exact HN2.out ho
                · exact ho)
              have HN6 : Hid (¬ Own p R cb) := HN2.out
              have hq := wrap_any w6 p R S A ha6 1 (by decide) (setOfL (L4.take i)) κ (by have := HI2.out.few; omega) r HI2.out.has
              rw [one_cast] at hq
              have HWR := Lib.hid hq
              clear hq
              clear ha6 hst6 HP x0 x1
              go_wp2_with fail
              (with_reducible refine HWR.out.mono ?_)
              rintro e w7 ⟨r2, S3, A3, R3, bad3, rfl, hm, hh, ha, hst⟩
              obtain ⟨rfl, hv⟩ := HI6.out.wrap_ok (by have := HLT.out; have := HM1.out; omega) hm
              rw [if_pos rfl]
              have HNX : Hid (OneI W w1 p root (rootT (setOfL L0) k0) L4 (.slice (some ⟨b4, off4, none⟩) m cap4) i (κ + 1) r2 S3 A3 R3 w7) := HI6.out.next hm.st ha hst (by rw [← clip_reach HI6.out.reach]; exact hh rfl) (fun c hc => root_mono (Nat.le_succ κ) (HI6.out.reach c hc)) (by omega) HK19.out hv
              have HC7 : Hid (Blk w7 cb 35 #[.int .i64 cx, .int .i64 cy]) := HC6.out.mod hst.mod (fun ho => by
                rcases ho with ho | ho
                · exact HN6.out ho
                · exact ho)
              have HN7 : Hid (¬ Own p R3 cb) := hst.not HC6.out.lt HN6.out
              clear hm hh ha hst hv HWR
              go_wp2_with fail
              go_roundw
              case rel => exact ⟨j + 1, κ + 1, r2, S3, A3, R3, by go_num, by have := HJK.out; omega, rfl, HNX.out, HC7.out, HN7.out⟩
              case measure => simp [intOf]; have := HJK.out; have := HK19.out; omega
        · have hi5 : i = m := by omega
          subst hi5
          have hq := peel_any wr p R S A HI.out.ar 1 (by decide) (setOfL (L4.take i)) κ HI.out.one (by have := HI.out.few; omega) r HI.out.has
          rw [one_cast] at hq
          have HPE := Lib.hid hq
          clear hq
          clear hlt hi
          go_wp2_with fail
          (with_reducible refine HPE.out.mono ?_)
          rintro e w7 ⟨κ', LL, r2, S3, A3, R3, bad3, rfl, g1, g2, g3, hm, hh, ha, hst⟩
          obtain ⟨V, hV, hVl⟩ := HI.out.vs
          have hbd : bad3 = 0 := (hm.enough (V ++ LL) (fun j y hd => List.mem_append_left _ (hV j y hd)) (fun y hy => List.mem_append_right _ hy) (by rw [List.length_append, HI.out.room]; have := HI.out.few; have := HM1.out; omega) (by rw [List.length_append, HI.out.quota]; have := HI.out.few; have := HM1.out; omega)).1
          subst hbd
          rw [if_pos rfl]
          obtain ⟨q1, q2, q3⟩ := hh rfl
          have HI9 := HI.out
          rw [← HL4.out] at HI9
          have hx : r2 = root := one_end HI9 HK0.out HPM.out g1 g2 hm.st (by rw [HL4.out]; exact q1) (by rw [HL4.out]; exact q2) (by rw [HL4.out]; exact q3)
          subst hx
          have HB7 : Hid (Below W.heap.size W w7) := HB1.out.trans ((HI.out.low.trans (hst.low HI.out.low.size HI.out.own).1).mono HB1.out.size)
          clear HI9 q1 q2 q3 hm hh ha hst hV hVl g1 g2 g3 HPE
          go_wp2_with fail
          go_ret
          exact ⟨rfl, HB7.out⟩)
end Go.Proofs.Ytdbhddkkcchmmaa

namespace Go.Proofs.Ytdbhddkkcchmmaa
open Go.ChangeShapes Go.WideShapes Go.ChangeAt Go.RowKit

set_option maxRecDepth 100000 in
theorem quadOne_lifted (os : Os) (started : os.Started) (H : Type) (enc : TypeId × Value → H) :
    ReturnsInHanded {} Try.checked os 7 .any (Rows.quadOneSpec.pre6 enc Try.prog Try.f7 Rows.quadOneRow.domain false) (Rows.quadOneSpec.post enc Try.prog Try.f7 false true false false) := by
  refine returnsInHanded_of_change_sized (C := Try.checked) Try.ownC started (by kernel_rfl) Try.func7
    (ChangeSpec.witness6 (enc := enc) (C := Try.checked) false ⟨#[], #[.slice none 0 0, .int .i64 0], []⟩ 8 (by kernel_rfl) (by kernel_rfl) (by kernel_rfl) (by kernel_rfl)) ?_
  intro W base args ds gs before hval0 hW hcnd hsz0 _
  have hval : ∀ (j : Nat) t v, Try.f7.params[j]? = some t → args[j]? = some v → Value.okWide Try.prog W .any base t v := hval0
  clear hsz0
  have hW' := hW
  obtain ⟨p, q, hA0, hV, rfl, hfz, hnd⟩ := hW
  have hA : DataW.TrodAll enc Try.prog W 0 (fun _ => true) true Try.f7.params.toList args.toList ds p := hA0
  rw [Try.params7] at hA hval
  obtain ⟨v0, v1, d0, d1, p0, p1, rfl, rfl, rfl, h0, h1⟩ := trodAll_two hA
  obtain ⟨rfl, rfl⟩ := trodVars_none hV
  obtain ⟨n0, l0, hR0, hin0, _⟩ := cells_of (hval 0 22 v0 rfl rfl) h0
  obtain ⟨x1, rfl, rfl, rfl, w1⟩ := open_int Try.underlying3 (hval 1 3 v1 rfl rfl) h1
  have hb1 : -9223372036854775808 ≤ x1 ∧ x1 ≤ 9223372036854775807 := by simpa [Lit.wf, IntKind.min, IntKind.max, IntKind.signed, IntKind.bits] using w1
  refine (quadOne_any W n0 v0 l0 x1 hR0 hin0 hb1).mono fun e W' ⟨he, hb⟩ => ?_
  subst he
  exact ⟨_, rfl, law_post Try.laidOutC (by rw [Try.params7]; intro t ht; simp at ht; rcases ht with rfl | rfl <;> exact ⟨by kernel_rfl, of_decide_eq_true (by kernel_rfl)⟩) rfl hW' hb (tb := 4) rfl Try.underlying4 rfl rfl rfl⟩

theorem quadOne_holds : Rows.QuadOneSaid :=
  OpenClaim.holds_of_wide 7 Try.f7 rfl rfl rfl rfl rfl rfl rfl ⟨rfl, rfl, rfl, rfl, rfl⟩ rfl rfl rfl rfl rfl (by kernel_rfl) Try.func7 (by kernel_rfl)
    (of_decide_eq_true (by kernel_rfl)) (by unfold Func.isWrapper; rw [if_neg (of_decide_eq_false (by kernel_rfl))]; exact ⟨rfl, rfl⟩)
    (fun os started H enc _ => quadOne_lifted os started H enc)
#print axioms quadOne_holds
end Go.Proofs.Ytdbhddkkcchmmaa
