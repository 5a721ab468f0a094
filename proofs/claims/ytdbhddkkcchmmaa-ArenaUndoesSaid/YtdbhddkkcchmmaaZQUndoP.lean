/- ArenaUndoes, ArenaKeeps: the plain laws. · QuadShared: the walk. · ArenaUndoes: the walk. · lifelodgekeep.ArenaUndoes: whatever its arguments: it returns true, and its arguments read behind the call as they read before. -/
import Derived.Test.YtdbhddkkcchmmaaZ12
import Derived.Test.YtdbhddkkcchmmaaZ9
import Derived.Test.YtdbhddkkcchmmaaZ6
import Derived.Test.YtdbhddkkcchmmaaZ5
import Derived.Test.YtdbhddkkcchmmaaZ1

namespace Go.Proofs.Ytdbhddkkcchmmaa
open Go.RowKit

/-- The cells of a root made of a list are the list's. -/
theorem cells_list {l : List (Int × Int)} {k : Nat} (h : Reach2 k l) : ∀ c, c ∈ cellsT (setOfL l) (k + 1) (-2 ^ k) (-2 ^ k) ↔ c ∈ l := fun c => by
  rw [mem_cellsT]
  exact ⟨fun q => of_decide_eq_true q.2, fun q => ⟨h c q, decide_eq_true q⟩⟩
theorem cells_len {l : List (Int × Int)} {k : Nat} (h : Reach2 k l) : (cellsT (setOfL l) (k + 1) (-2 ^ k) (-2 ^ k)).length ≤ l.length :=
  List.Nodup.length_le_of_subset (cellsT_nodup _ _ _ _) fun c hc => (cells_list h c).1 hc
theorem within_twin {S S' : ArS} {V : List Thing} (tw : Twin S S') (h : Within S V) : Within S' V := fun i x hd => h i x (tw.denT.1 hd)
section
variable {S0 S1 S3 S5 : ArS} {A0 A1 A3 A5 : Nat → Abs} {t : Nat} {Tl Tm : Tree} {p q r : Int}
def markS (S : ArS) (t : Nat) : ArS := { S with added := upd S.added t [] }
def markA (A : Nat → Abs) (t : Nat) : Nat → Abs := upd A t ⟨(A t).have_, []⟩
def undoA (A : Nat → Abs) (t : Nat) : Nat → Abs := upd A t ⟨restL (A t), []⟩
theorem markS_add {S : ArS} {A : Nat → Abs} (h : Rel S A) (ha : ∀ u, u < 64 → ((S.added u).length : Int) ≤ S.count u) : ∀ u, u < 64 → (((markS S t).added u).length : Int) ≤ (markS S t).count u := fun u hu => by
  show ((upd S.added t [] u).length : Int) ≤ S.count u
  by_cases e : u = t
  · subst e; rw [upd_same]; exact (h.inv.cnt_le hu).1
  · rw [upd_ne _ _ e]; exact ha u hu
theorem undoS_add {S : ArS} {A : Nat → Abs} (h : Rel S A) (ht : t < 64) (ha : ∀ u, u < 64 → ((S.added u).length : Int) ≤ S.count u) : ∀ u, u < 64 → (((undoS S t).added u).length : Int) ≤ (undoS S t).count u := fun u hu => by
  have hr := (h.undo ht).1
  show ((upd S.added t [] u).length : Int) ≤ (undoS S t).count u
  by_cases e : u = t
  · subst e; rw [upd_same]; exact (hr.inv.cnt_le hu).1
  · rw [upd_ne _ _ e, hr.count hu, upd_ne _ _ e, ← h.count hu]; exact ha u hu
/-- What undoing leaves. -/
theorem rest_law (h1 : Rel S1 A1) (ht : t < 64) (hm : Made t (nodes Tm) (markS S1 t) (markA A1 t) 0 S3 A3 0) : ∀ x, x ∈ (undoA A3 t t).have_ ↔ x ∈ (A1 t).have_ := fun x => by
  obtain ⟨_, a1, a2⟩ := hm.ok rfl
  unfold undoA
  rw [upd_same]
  show x ∈ restL (A3 t) ↔ _
  unfold restL
  rw [List.mem_filter]
  have b1 := a1 x
  have b2 := a2 x
  unfold markA at b1 b2
  rw [upd_same] at b1 b2
  simp only [List.not_mem_nil, false_or] at b1 b2
  constructor
  · rintro ⟨g1, g2⟩
    rcases b1.1 g1 with q | q
    · exact q
    · by_cases e : x ∈ (A1 t).have_
      · exact e
      · have := b2.2 ⟨q, e⟩
        simp [this] at g2
  · intro g
    refine ⟨b1.2 (.inl g), ?_⟩
    have : x ∉ (A3 t).added := fun q => (b2.1 q).2 g
    simp [this]
/-- What ArenaUndoes asks. -/
theorem undo_law (h1 : Rel S1 A1) (ht : t < 64) (hp : Has S1 A1 t p Tl) (hm : Made t (nodes Tm) (markS S1 t) (markA A1 t) 0 S3 A3 0) (hq : Has S3 A3 t q Tm) :
    Rel (undoS S3 t) (undoA A3 t) ∧ Has (undoS S3 t) (undoA A3 t) t p Tl ∧ (undoS S3 t).count t = S1.count t ∧ Den (undoS S3 t) q Tm := by
  have hr := hm.st.rel.undo ht
  have hmk := h1.mark ht
  have hrest := rest_law h1 ht hm
  have hk2 : hasT (markA A1 t t).have_ Tl = true := by unfold markA; rw [upd_same]; exact hp.2
  refine ⟨hr.1, ⟨hr.2.den.2 (hm.st.stay t ht Tl p hk2 (hmk.2.den.2 hp.1)), has_nodes fun x hx => (hrest x).2 (h1.nodes_has ht hp.2 x hx)⟩, ?_, hr.2.den.2 hq.1⟩
  rw [hr.1.count ht, h1.count ht]
  have := nodup_len (hr.1.ok t ht).nodup (h1.ok t ht).nodup hrest
  show (((undoA A3 t) t).have_.length : Int) = _
  rw [show ((undoA A3 t) t).have_.length = (A1 t).have_.length from this]
theorem undo_again (h1 : Rel S1 A1) (ht : t < 64) (hm : Made t (nodes Tm) (markS S1 t) (markA A1 t) 0 S3 A3 0) (hq : Den (undoS S3 t) q Tm) (hm5 : Made t (nodes Tm) (undoS S3 t) (undoA A3 t) 0 S5 A5 0) (hst : Stays (fun _ => True) (undoS S3 t) S5) (hr : Has S5 A5 t r Tm) :
    r = q ∧ S5.count t = S3.count t := by
  have hrest := rest_law h1 ht hm
  refine ⟨Den.inj hr.1 (Den.stays hst hq), ?_⟩
  rw [hm5.st.rel.count ht, hm.st.rel.count ht]
  have : (A5 t).have_.length = (A3 t).have_.length := nodup_len (hm5.st.rel.ok t ht).nodup (hm.st.rel.ok t ht).nodup fun x => by
    rw [(hm5.ok rfl).2.1, hrest, (hm.ok rfl).2.1]
    unfold markA; rw [upd_same]
  rw [this]
end
end Go.Proofs.Ytdbhddkkcchmmaa

namespace Go.Proofs.Ytdbhddkkcchmmaa
open Go.RowKit

theorem near_okC {l : List (Int × Int)} {most : Nat} {near : Int} (h : 0 < near) (h2 : near ≤ 1099511627775) : ∀ c ∈ someL l most near, okC c := fun c hc => by
  have := someL_near h hc
  unfold okC okZ; omega

set_option maxRecDepth 100000 in
set_option maxHeartbeats 3200000 in
theorem quadShared_any (W : World) (n : Nat) (v : Value) (l : List (Int × Int)) (t u : Int) (hR : Rd W W.heap.size 2 v n (flat l)) (hin : ∀ c ∈ l, inC c) (ht : -9223372036854775808 ≤ t ∧ t ≤ 9223372036854775807) (hu : -9223372036854775808 ≤ u ∧ u ≤ 9223372036854775807) :
    Calls Try.prog 3 #[v, .int .i64 t, .int .i64 u] W fun e W' => e = .returned (.bool true) ∧ Below W.heap.size W W' := by
  have H1 := Lib.hid (some_lit W n 200 200 rfl v l 549755813888 hR hin (by decide) (by decide) (by decide))
  have HOK := Lib.hid (near_okC (l := l) (most := 200) (near := 549755813888) (by decide) (by decide))
  have HLN : Hid ((someL l 200 549755813888).length = min 200 n) := by have := hR.pairs.1; show _ = _; rw [someL_length, this]
  have HT := Lib.hid ht
  have HU := Lib.hid hu
  clear hR hin ht hu
  go_enter Try.func3, Try.ntmps3
  go_wp2_with fail
  (with_reducible refine H1.out.mono ?_)
  rintro e w1 ⟨v1, rfl, hs1, hf1, hb1⟩
  generalize hL : someL l 200 549755813888 = L at hs1 HOK HLN
  have hm1 : min 200 n ≤ 200 := Nat.min_le_left _ _
  generalize min 200 n = m at hs1 HLN hm1
  have HS1 := Lib.hid hs1
  have HB1 := Lib.hid hb1
  have HM1 := Lib.hid hm1
  clear hs1 hf1 hb1 H1 hL hm1
  go_wp2_with fail
  (with_reducible refine (spot_any t 62 (by omega) (by omega) HT.out.1 HT.out.2 _).mono ?_)
  rintro e wq ⟨rfl, rfl⟩
  go_wp2_with fail
  (with_reducible refine (spot_any u 62 (by omega) (by omega) HU.out.1 HU.out.2 _).mono ?_)
  rintro e wq ⟨rfl, rfl⟩
  obtain ⟨tn, htn, htl⟩ : ∃ tn : Nat, t % 62 = tn ∧ tn < 62 := ⟨(t % 62).toNat, by omega, by omega⟩
  obtain ⟨un, hun, hul⟩ : ∃ un : Nat, u % 62 = un ∧ un < 62 := ⟨(u % 62).toNat, by omega, by omega⟩
  rw [htn, hun]
  have HTL := Lib.hid htl
  have HUL := Lib.hid hul
  clear htn hun htl hul HT HU
  go_wp2_with fail
  (with_reducible refine (begunQ_any w1).mono ?_)
  rintro e w2 ⟨p, R, S, A, rfl, hA, hn, hro, hqu, hV, hb2, hfr⟩
  have HA := Lib.hid hA
  have HN := Lib.hid hn
  have HRO := Lib.hid hro
  have HQU := Lib.hid hqu
  have HV := Lib.hid hV
  have HB2 := Lib.hid hb2
  have HFR := Lib.hid hfr
  clear hA hn hro hqu hV hb2 hfr
  go_wp2_with fail
  (with_reducible refine (from_any w2 p R S A HA.out tn (by have := HTL.out; omega) w1.heap.size m v1 L (HS1.out.rd.below HB2.out) HB2.out.size (by have := HM1.out; omega) HOK.out).mono ?_)
  rintro e w3 ⟨k, hk, hk40, r, S1, A1, R1, bad1, rfl, hm, hh, hA1, hst⟩
  obtain ⟨rfl, ⟨V1, hV1, hV1l⟩, _⟩ := made_fine (by omega) HV.out (by have := HLN.out; have := HM1.out; simp only [List.length_singleton]; omega) HRO.out (HQU.out tn (by have := HTL.out; omega)) hm
  rw [if_pos rfl]
  have HK := Lib.hid hk
  have HM := Lib.hid hm
  have HH := Lib.hid (hh rfl)
  have HA1 := Lib.hid hA1
  have HST := Lib.hid hst
  have HLV : Hid (S1.live < 200000) := by have h1 := hA1.rel.live_le hV1; have h2 := HLN.out; have h3 := HM1.out; simp only [List.length_singleton] at hV1l; show S1.live < 200000; omega
  clear hk hk40 hm hh hA1 hst hV1 hV1l HA HV
  go_wp2_with fail
  (with_reducible refine (live_any w3 p R1 S1 HA1.out.arm).mono ?_)
  rintro e wq ⟨rfl, rfl⟩
  go_wp2_with fail
  (with_reducible refine (count_any w3 p R1 S1 HA1.out.arm tn (by have := HTL.out; omega)).mono ?_)
  rintro e wq ⟨rfl, rfl⟩
  go_wp2_with fail
  obtain ⟨hb3, hf3⟩ := HST.out.low HB2.out.size HFR.out
  have HB3 := Lib.hid (HB2.out.trans hb3)
  have HF3 := Lib.hid hf3
  clear hb3 hf3 HST HFR HB2
  (with_reducible refine (from_any w3 p R1 S1 A1 HA1.out un (by have := HUL.out; omega) w1.heap.size m v1 L (HS1.out.rd.below HB3.out) HB3.out.size (by have := HM1.out; omega) HOK.out).mono ?_)
  rintro e w4 ⟨k2, hk, hk40, q, S2, A2, R2, bad2, rfl, hm, hh, hA2, hst⟩
  obtain rfl : k = k2 := leastK_unique HK.out hk (fun _ => Iff.rfl)
  have hrm : S1.live < S1.room := by rw [HM.out.st.room, HRO.out]; exact HLV.out
  have hqt : S1.live < S1.quota un := by rw [HM.out.st.quota, HQU.out un (by have := HUL.out; omega)]; exact HLV.out
  obtain ⟨V, v1', v2, v3, v4⟩ := HA1.out.rel.things
  obtain ⟨rfl, _⟩ := hm.enough V v2 (fun x hx => by obtain ⟨i, hi⟩ := HH.out.1.nodes x hx; exact v2 i x hi) (by omega) (by omega)
  obtain ⟨hpq, hl2, hc1, hc2⟩ := shared_law HTL.out HUL.out HN.out HM.out HH.out hm (hh rfl) hrm hqt
  rw [if_pos rfl]
  obtain ⟨hb4, _⟩ := hst.low HB3.out.size HF3.out
  have HB4 : Hid (Below W.heap.size W w4) := HB1.out.trans ((HB3.out.trans hb4).mono HB1.out.size)
  have HA2 := Lib.hid hA2
  subst hpq
  have HL2 := Lib.hid hl2
  have HC1 := Lib.hid hc1
  have HC2 := Lib.hid hc2
  clear hk hk40 hm hh hA2 hst hb4 hl2 hc1 hc2 hrm hqt v1' v2 v3 v4
  go_wp2_with fail
  (with_reducible refine (live_any w4 p R2 S2 HA2.out.arm).mono ?_)
  rintro e wq ⟨rfl, rfl⟩
  rw [HL2.out]
  go_wp2_with fail
  (with_reducible refine (count_any w4 p R2 S2 HA2.out.arm tn (by have := HTL.out; omega)).mono ?_)
  rintro e wq ⟨rfl, rfl⟩
  rw [HC1.out]
  go_wp2_with fail
  (with_reducible refine (count_any w4 p R2 S2 HA2.out.arm un (by have := HUL.out; omega)).mono ?_)
  rintro e wq ⟨rfl, rfl⟩
  rw [HC2.out]
  go_wp2_with fail
  go_ret
  exact ⟨rfl, HB4.out⟩
end Go.Proofs.Ytdbhddkkcchmmaa

namespace Go.Proofs.Ytdbhddkkcchmmaa
open Go.RowKit

theorem cast_one : ((1 : Nat) : Int) = 1 := rfl
theorem cast_two : ((2 : Nat) : Int) = 2 := rfl

set_option maxRecDepth 100000 in
set_option maxHeartbeats 6400000 in
theorem arenaUndoes_any (W : World) (n1 : Nat) (va : Value) (la : List (Int × Int)) (n2 : Nat) (vb : Value) (lb : List (Int × Int)) (hRa : Rd W W.heap.size 2 va n1 (flat la)) (hina : ∀ c ∈ la, inC c) (hRb : Rd W W.heap.size 2 vb n2 (flat lb)) (hinb : ∀ c ∈ lb, inC c) :
    Calls Try.prog 5 #[va, vb] W fun e W' => e = .returned (.bool true) ∧ Below W.heap.size W W' := by
  have H1 := Lib.hid (some_lit W n1 100 100 rfl va la 1073741824 hRa hina (by decide) (by decide) (by decide))
  have HOL := Lib.hid (near_okC (l := la) (most := 100) (near := 1073741824) (by decide) (by decide))
  have HOM := Lib.hid (near_okC (l := lb) (most := 100) (near := 1073741824) (by decide) (by decide))
  have HLN : Hid ((someL la 100 1073741824).length = min 100 n1) := by have := hRa.pairs.1; show _ = _; rw [someL_length, this]
  have HMN : Hid ((someL lb 100 1073741824).length = min 100 n2) := by have := hRb.pairs.1; show _ = _; rw [someL_length, this]
  have HRB := Lib.hid hRb
  have HIB := Lib.hid hinb
  clear hRa hina hRb hinb
  go_enter Try.func5, Try.ntmps5
  go_wp2_with fail
  (with_reducible refine H1.out.mono ?_)
  rintro e w1 ⟨v1, rfl, hs1, hf1, hb1⟩
  have H2 := Lib.hid (some_lit w1 n2 100 100 rfl vb lb 1073741824 ((HRB.out.below hb1).more hb1.size) HIB.out (by decide) (by decide) (by decide))
  generalize someL la 100 1073741824 = L at hs1 HOL HLN
  have hm1 : min 100 n1 ≤ 100 := Nat.min_le_left _ _
  generalize min 100 n1 = m1 at hs1 HLN hm1
  have HS1 := Lib.hid hs1
  have HB1 := Lib.hid hb1
  have HM1 := Lib.hid hm1
  clear hs1 hf1 hb1 H1 hm1
  go_wp2_with fail
  (with_reducible refine H2.out.mono ?_)
  rintro e w2 ⟨v2, rfl, hs2, hf2, hb2⟩
  generalize someL lb 100 1073741824 = M at hs2 HOM HMN
  have hm2 : min 100 n2 ≤ 100 := Nat.min_le_left _ _
  generalize min 100 n2 = m2 at hs2 HMN hm2
  have HM2 := Lib.hid hm2
  have HD1 : Hid (∀ wx, Below w2.heap.size w2 wx → Rd wx w2.heap.size 2 v1 m1 (flat L)) := fun wx h => ((HS1.out.rd.below hb2).more hb2.size).below h
  have HD2 : Hid (∀ wx, Below w2.heap.size w2 wx → Rd wx w2.heap.size 2 v2 m2 (flat M)) := fun wx h => hs2.rd.below h
  have HB2 : Hid (Below W.heap.size W w2) := HB1.out.trans (hb2.mono HB1.out.size)
  clear hs2 hf2 hb2 H2 hm2 HS1 HB1 HRB HIB
  go_wp2_with fail
  (with_reducible refine (begunQ_any w2).mono ?_)
  rintro e w3 ⟨p, R, S, A, rfl, hA, hn, hro, hqu, hV, hb3, hfr⟩
  have HA := Lib.hid hA
  have HN := Lib.hid hn
  have HRO := Lib.hid hro
  have HQU := Lib.hid hqu
  have HV := Lib.hid hV
  have HB3 := Lib.hid hb3
  have HF3 := Lib.hid hfr
  clear hA hn hro hqu hV hb3 hfr
  go_wp2_with fail
  have hq := from_any w3 p R S A HA.out 1 (by decide) w2.heap.size m1 v1 L (HD1.out w3 HB3.out) HB3.out.size (by have := HM1.out; omega) HOL.out
  rw [cast_one] at hq
  (with_reducible refine hq.mono ?_)
  clear hq
  rintro e w4 ⟨k1, hk, hk40, p1, S1, A1, R1, bad, rfl, hm, hh, hA1, hst⟩
  obtain ⟨rfl, ⟨V1, hV1, hV1l⟩, hstay⟩ := made_fine (by omega) HV.out (by have := HLN.out; have := HM1.out; simp only [List.length_singleton]; omega) HRO.out (HQU.out 1 (by decide)) hm
  rw [if_pos rfl]
  obtain ⟨hb, hf⟩ := hst.low HB3.out.size HF3.out
  have HB4 := Lib.hid (HB3.out.trans hb)
  have HF4 := Lib.hid hf
  have HK1 := Lib.hid hk
  have HP1 := Lib.hid (hh rfl)
  have HA1 := Lib.hid hA1
  have HRQ : Hid (S1.room = 200000 ∧ S1.quota 1 = 200000) := ⟨hm.st.room.trans HRO.out, by rw [hm.st.quota]; exact HQU.out 1 (by decide)⟩
  have HV1 := Lib.hid hV1
  have HL1 : Hid (V1.length ≤ 5000) := by have h2 := HLN.out; have h3 := HM1.out; simp only [List.length_singleton] at hV1l; show V1.length ≤ 5000; omega
  have HK40 := Lib.hid hk40
  clear hk hk40 hm hh hA1 hst hV1 hV1l hstay hb hf HA HV HRO HQU HN HB3 HF3
  go_wp2_with fail
  have hq := count_any w4 p R1 S1 HA1.out.arm 1 (by decide)
  rw [cast_one] at hq
  (with_reducible refine hq.mono ?_)
  clear hq
  rintro e wq ⟨rfl, rfl⟩
  go_wp2_with fail
  have hq := mark_any w4 p R1 S1 HA1.out.arm 1 (by decide)
  rw [cast_one] at hq
  (with_reducible refine hq.mono ?_)
  clear hq
  rintro e w5 ⟨rfl, ha5, hs5⟩
  have HA5 : Hid (Ar w5 p { R1 with av := upd R1.av 1 nilV } (markS S1 1) (markA A1 1)) := ⟨ha5, (HA1.out.rel.mark (by decide)).1, markS_add HA1.out.rel HA1.out.add⟩
  obtain ⟨hb, hf⟩ := (hs5.toH NoX).low HB4.out.size HF4.out
  have HB5 := Lib.hid (HB4.out.trans hb)
  have HF5 := Lib.hid hf
  have HV5 : Hid (Within (markS S1 1) V1) := within_twin (HA1.out.rel.mark (by decide)).2 HV1.out
  have HQ5 : Hid ((markS S1 1).room = 200000 ∧ (markS S1 1).quota 1 = 200000) := HRQ.out
  clear ha5 hs5 hb hf
  generalize ({ R1 with av := upd R1.av 1 nilV } : ArR) = R5 at HA5 HF5
  go_wp2_with fail
  have hq := from_any w5 p R5 (markS S1 1) (markA A1 1) HA5.out 1 (by decide) w2.heap.size m2 v2 M (HD2.out w5 HB5.out) HB5.out.size (by have := HM2.out; omega) HOM.out
  rw [cast_one] at hq
  (with_reducible refine hq.mono ?_)
  clear hq
  rintro e w6 ⟨k2, hk, hk40, q1, S6, A6, R6, bad, rfl, hm, hh, hA1, hst⟩
  obtain ⟨rfl, ⟨V6, hV1, hV1l⟩, hstay⟩ := made_fine (by omega) HV5.out (by have := HMN.out; have := HM2.out; have := HL1.out; omega) HQ5.out.1 HQ5.out.2 hm
  rw [if_pos rfl]
  obtain ⟨hb, hf⟩ := hst.low HB5.out.size HF5.out
  have HB6 := Lib.hid (HB5.out.trans hb)
  have HF6 := Lib.hid hf
  have HK2 := Lib.hid hk
  have HP6 := Lib.hid (hh rfl)
  have HA6 := Lib.hid hA1
  have HM6 := Lib.hid hm
  have HV6 := Lib.hid hV1
  have HL6 : Hid (V6.length ≤ 10000) := by have h1 := HL1.out; have h2 := HMN.out; have h3 := HM2.out; show V6.length ≤ 10000; omega
  have HUL := Lib.hid (undo_law HA1.out.rel (by decide) HP1.out hm (hh rfl))
  clear hk hk40 hm hh hA1 hst hV1 hV1l hstay hb hf
  go_wp2_with fail
  have hq := count_any w6 p R6 S6 HA6.out.arm 1 (by decide)
  rw [cast_one] at hq
  (with_reducible refine hq.mono ?_)
  clear hq
  rintro e wq ⟨rfl, rfl⟩
  go_wp2_with fail
  have hq := undo_any w6 p R6 S6 HA6.out.arm HA6.out.rel.inv 1 (by decide)
  rw [cast_one] at hq
  (with_reducible refine hq.mono ?_)
  clear hq
  rintro e w7 ⟨rfl, ha7, hs7⟩
  have HA7 : Hid (Ar w7 p { R6 with av := upd R6.av 1 nilV } (undoS S6 1) (undoA A6 1)) := ⟨ha7, HUL.out.1, undoS_add HA6.out.rel (by decide) HA6.out.add⟩
  obtain ⟨hb, hf⟩ := (hs7.toH NoX).low HB6.out.size HF6.out
  have HB7 := Lib.hid (HB6.out.trans hb)
  have HF7 := Lib.hid hf
  have HV7 : Hid (Within (undoS S6 1) V6) := within_twin (HA6.out.rel.undo (by decide)).2 HV6.out
  have hle7 := loseL_less 1 (S6.added 1) S6
  have HQ7 : Hid ((undoS S6 1).room = 200000 ∧ (undoS S6 1).quota 1 = 200000) := ⟨by show (loseL S6 1 (S6.added 1)).room = _; rw [hle7.room, HM6.out.st.room]; exact HQ5.out.1, by show (loseL S6 1 (S6.added 1)).quota 1 = _; rw [hle7.quota, HM6.out.st.quota]; exact HQ5.out.2⟩
  rw [HUL.out.2.2.1]
  clear ha7 hs7 hb hf hle7
  generalize ({ R6 with av := upd R6.av 1 nilV } : ArR) = R7 at HA7 HF7
  have hrch := HK1.out.2.1
  have hq := cells2_any w7 p R7 (undoS S6 1) (undoA A6 1) HA7.out 1 (by decide) (setOfL L) k1 (by have := HK40.out; omega) p1 HUL.out.2.1 (Nat.le_trans (cells_len hrch) (by have := HLN.out; have := HM1.out; omega)) (fun c hc => HOL.out c ((cells_list hrch c).1 hc))
  rw [cast_one] at hq
  have HCC := Lib.hid hq
  clear hq
  go_wp2_with fail
  (with_reducible refine HCC.out.mono ?_)
  rintro e w8 ⟨cq, cm, cs, rfl, hcs, hcsl, hcf, hca, hcst⟩
  have HCS : Hid (Tid L cs) := ⟨hcs.1, fun c => (hcs.2 c).trans (cells_list hrch c)⟩
  have HCL := Lib.hid hcsl
  have HA8 := Lib.hid hca
  obtain ⟨hb, hf⟩ := hcst.low HB7.out.size HF7.out
  have HB8 := Lib.hid (HB7.out.trans hb)
  have HF8 := Lib.hid hf
  have HCN : Hid (∀ b, sblk (.slice cq cm cm) = some b → ¬ Own p R7 b) := fun b hb => (hcf b hb).2
  clear hcs hcsl hcf hca hcst hb hf HCC hrch
  go_wp2_with fail
  (with_reducible refine (tidy_ok w8 w2.heap.size m1 v1 L (HD1.out w8 HB8.out) HB8.out.size (by have := HM1.out; omega) HOL.out).mono ?_)
  rintro e w9 ⟨tq, tm, ts, rfl, hts, htsl, htf, hb9⟩
  obtain rfl : ts = cs := hts.unique HCS.out
  obtain rfl : tm = cm := by have e1 := htsl.1; have e2 := HCL.out.1; rw [flat_length] at e1 e2; omega
  have HA9 := Lib.hid (HA8.out.below hb9)
  have HB9 := Lib.hid (HB8.out.trans (hb9.mono HB8.out.size))
  have HCL9 := Lib.hid (HCL.out.below hb9)
  have HTL := Lib.hid htsl
  have HTN : Hid (∀ b, sblk (.slice tq tm tm) = some b → ¬ Own p R7 b) := fun b hb ho => by have h1 := htf b hb; have h2 := HA8.out.arm.own_lt ho; omega
  clear hts htsl htf hb9 HCL
  go_wp2_with fail
  have hq := from_any w9 p R7 (undoS S6 1) (undoA A6 1) HA9.out 1 (by decide) w2.heap.size m2 v2 M (HD2.out w9 HB9.out) HB9.out.size (by have := HM2.out; omega) HOM.out
  rw [cast_one] at hq
  (with_reducible refine hq.mono ?_)
  clear hq
  rintro e w10 ⟨k3, hk, hk40, r1, S10, A10, R10, bad, rfl, hm, hh, hA1, hst⟩
  obtain ⟨rfl, ⟨V10, hV1, hV1l⟩, hstay⟩ := made_fine (by omega) HV7.out (by have := HMN.out; have := HM2.out; have := HL6.out; omega) HQ7.out.1 HQ7.out.2 hm
  rw [if_pos rfl]
  obtain ⟨hb, hf⟩ := hst.low HB9.out.size HF8.out
  have HB10 := Lib.hid (HB9.out.trans hb)
  have HF10 := Lib.hid hf
  obtain rfl : k2 = k3 := leastK_unique HK2.out hk (fun _ => Iff.rfl)
  obtain ⟨hrq, hcnt⟩ := undo_again HA1.out.rel (by decide) HM6.out HUL.out.2.2.2 hm hstay (hh rfl)
  subst hrq
  have HCNT := Lib.hid hcnt
  have HA10 := Lib.hid hA1
  have HX := Lib.hid (HCL9.out.mod hst.mod fun b hb ho => by
    rcases ho with ho | ho
    · exact HCN.out b hb ho
    · exact ho)
  have HY := Lib.hid (HTL.out.mod hst.mod fun b hb ho => by
    rcases ho with ho | ho
    · exact HTN.out b hb ho
    · exact ho)
  have hn0 : (S6.count 1 - S1.count 1 == S6.count 1 - S1.count 1) = true := by simp
  have hbd : -4000000 ≤ S6.count 1 ∧ S6.count 1 ≤ 4000000 := by have := HA6.out.rel.inv.cnt_le (t := 1) (by decide); omega
  have hbd2 : -4000000 ≤ S1.count 1 ∧ S1.count 1 ≤ 4000000 := by have := HA1.out.rel.inv.cnt_le (t := 1) (by decide); omega
  obtain ⟨hbd3, hbd4⟩ := hbd
  obtain ⟨hbd5, hbd6⟩ := hbd2
  clear hk hk40 hm hh hA1 hst hV1 hV1l hstay hb hf hcnt
  go_wp2_with fail
  (with_reducible refine (same_true w10 w10.heap.size w10.heap.size tm _ _ ts HX.out.rd HY.out.rd).mono ?_)
  rintro e w11 ⟨rfl, d, rfl⟩
  have HA11 := Lib.hid (HA10.out.arm.drewN d)
  have HB11 : Hid (Below W.heap.size W (w10.drewN d)) := below_drewN (HB2.out.trans (HB10.out.mono HB2.out.size)) d
  generalize w10.drewN d = w11 at HA11 HB11 ⊢
  go_wp2_with fail
  have hq := count_any w11 p R10 S10 HA11.out 1 (by decide)
  rw [cast_one] at hq
  (with_reducible refine hq.mono ?_)
  clear hq
  rintro e wq ⟨rfl, rfl⟩
  rw [HCNT.out]
  go_wp2_with fail
  go_ret
  exact ⟨rfl, HB11.out⟩
end Go.Proofs.Ytdbhddkkcchmmaa

namespace Go.Proofs.Ytdbhddkkcchmmaa
open Go.ChangeShapes Go.WideShapes Go.ChangeAt Go.RowKit

set_option maxRecDepth 100000 in
theorem arenaUndoes_lifted (os : Os) (started : os.Started) (H : Type) (enc : TypeId × Value → H) :
    ReturnsInHanded {} Try.checked os 5 .any (Rows.arenaUndoesSpec.pre6 enc Try.prog Try.f5 Rows.arenaUndoesRow.domain false) (Rows.arenaUndoesSpec.post enc Try.prog Try.f5 false true false false) := by
  refine returnsInHanded_of_change_sized (C := Try.checked) Try.ownC started (by kernel_rfl) Try.func5
    (ChangeSpec.witness6 (enc := enc) (C := Try.checked) false ⟨#[], #[.slice none 0 0, .slice none 0 0], []⟩ 8 (by kernel_rfl) (by kernel_rfl) (by kernel_rfl) (by kernel_rfl)) ?_
  intro W base args ds gs before hval0 hW hcnd hsz0 _
  have hval : ∀ (j : Nat) t v, Try.f5.params[j]? = some t → args[j]? = some v → Value.okWide Try.prog W .any base t v := hval0
  clear hsz0
  have hW' := hW
  obtain ⟨p, q, hA0, hV, rfl, hfz, hnd⟩ := hW
  have hA : DataW.TrodAll enc Try.prog W 0 (fun _ => true) true Try.f5.params.toList args.toList ds p := hA0
  rw [Try.params5] at hA hval
  obtain ⟨v0, v1, d0, d1, p0, p1, rfl, rfl, rfl, h0, h1⟩ := trodAll_two hA
  obtain ⟨rfl, rfl⟩ := trodVars_none hV
  obtain ⟨n0, l0, hR0, hin0, _⟩ := cells_of (hval 0 22 v0 rfl rfl) h0
  obtain ⟨n1, l1, hR1, hin1, _⟩ := cells_of (hval 1 22 v1 rfl rfl) h1
  refine (arenaUndoes_any W n0 v0 l0 n1 v1 l1 hR0 hin0 hR1 hin1).mono fun e W' ⟨he, hb⟩ => ?_
  subst he
  exact ⟨_, rfl, law_post Try.laidOutC (by rw [Try.params5]; intro t ht; simp at ht; rcases ht with rfl | rfl <;> exact ⟨by kernel_rfl, of_decide_eq_true (by kernel_rfl)⟩) rfl hW' hb (tb := 4) rfl Try.underlying4 rfl rfl rfl⟩

theorem arenaUndoes_holds : Rows.ArenaUndoesSaid :=
  OpenClaim.holds_of_wide 5 Try.f5 rfl rfl rfl rfl rfl rfl rfl ⟨rfl, rfl, rfl, rfl, rfl⟩ rfl rfl rfl rfl rfl (by kernel_rfl) Try.func5 (by kernel_rfl)
    (of_decide_eq_true (by kernel_rfl)) (by unfold Func.isWrapper; rw [if_neg (of_decide_eq_false (by kernel_rfl))]; exact ⟨rfl, rfl⟩)
    (fun os started H enc _ => arenaUndoes_lifted os started H enc)
#print axioms arenaUndoes_holds
end Go.Proofs.Ytdbhddkkcchmmaa
