/- ArenaUndoes, ArenaKeeps: the plain laws. · ArenaKeeps: the plain laws. · QuadShared: the walk. · ArenaUndoes: the walk. · ArenaKeeps: the walk. · lifelodgekeep.ArenaKeeps: whatever its arguments: it returns true, and its arguments read behind the call as they read before. -/
import Derived.Test.YtdbhddkkcchmmaaZ12
import Derived.Test.YtdbhddkkcchmmaaZ9
import Derived.Test.YtdbhddkkcchmmaaZ6
import Derived.Test.YtdbhddkkcchmmaaZ5
import Derived.Test.YtdbhddkkcchmmaaZ1

namespace Go.Proofs.Ytdbhddkkcchmmaa
open Go.RowKit

/-- The cells of a root made of a list are the list's. -/
theorem cells_list {l : List (Int × Int)} {k : Nat} (h : Reach2 k l) : ∀ c, c ∈ cellsT (setOfL l) (k + 1) (-2 ^ k) (-2 ^ k) ↔ c ∈ l := fun c => by
  rw [mem_cellsT]
  exact ⟨fun q => of_decide_eq_true q.2, fun q => ⟨h c q, decide_eq_true q⟩⟩
theorem cells_len {l : List (Int × Int)} {k : Nat} (h : Reach2 k l) : (cellsT (setOfL l) (k + 1) (-2 ^ k) (-2 ^ k)).length ≤ l.length :=
  List.Nodup.length_le_of_subset (cellsT_nodup _ _ _ _) fun c hc => (cells_list h c).1 hc
theorem within_twin {S S' : ArS} {V : List Thing} (tw : Twin S S') (h : Within S V) : Within S' V := fun i x hd => h i x (tw.denT.1 hd)
section
variable {S0 S1 S3 S5 : ArS} {A0 A1 A3 A5 : Nat → Abs} {t : Nat} {Tl Tm : Tree} {p q r : Int}
def markS (S : ArS) (t : Nat) : ArS := { S with added := upd S.added t [] }
def markA (A : Nat → Abs) (t : Nat) : Nat → Abs := upd A t ⟨(A t).have_, []⟩
def undoA (A : Nat → Abs) (t : Nat) : Nat → Abs := upd A t ⟨restL (A t), []⟩
theorem markS_add {S : ArS} {A : Nat → Abs} (h : Rel S A) (ha : ∀ u, u < 64 → ((S.added u).length : Int) ≤ S.count u) : ∀ u, u < 64 → (((markS S t).added u).length : Int) ≤ (markS S t).count u := fun u hu => by
  show ((upd S.added t [] u).length : Int) ≤ S.count u
  by_cases e : u = t
  · subst e; rw [upd_same]; exact (h.inv.cnt_le hu).1
  · rw [upd_ne _ _ e]; exact ha u hu
theorem undoS_add {S : ArS} {A : Nat → Abs} (h : Rel S A) (ht : t < 64) (ha : ∀ u, u < 64 → ((S.added u).length : Int) ≤ S.count u) : ∀ u, u < 64 → (((undoS S t).added u).length : Int) ≤ (undoS S t).count u := fun u hu => by
  have hr := (h.undo ht).1
  show ((upd S.added t [] u).length : Int) ≤ (undoS S t).count u
  by_cases e : u = t
  · subst e; rw [upd_same]; exact (hr.inv.cnt_le hu).1
  · rw [upd_ne _ _ e, hr.count hu, upd_ne _ _ e, ← h.count hu]; exact ha u hu
/-- What undoing leaves. -/
theorem rest_law (_h1 : Rel S1 A1) (_ht : t < 64) (hm : Made t (nodes Tm) (markS S1 t) (markA A1 t) 0 S3 A3 0) : ∀ x, x ∈ (undoA A3 t t).have_ ↔ x ∈ (A1 t).have_ := fun x => by
  obtain ⟨_, a1, a2⟩ := hm.ok rfl
  unfold undoA
  rw [upd_same]
  show x ∈ restL (A3 t) ↔ _
  unfold restL
  rw [List.mem_filter]
  have b1 := a1 x
  have b2 := a2 x
  unfold markA at b1 b2
  rw [upd_same] at b1 b2
  simp only [List.not_mem_nil, false_or] at b1 b2
  constructor
  · rintro ⟨g1, g2⟩
    rcases b1.1 g1 with q | q
    · exact q
    · by_cases e : x ∈ (A1 t).have_
      · exact e
      · have := b2.2 ⟨q, e⟩
        simp [this] at g2
  · intro g
    refine ⟨b1.2 (.inl g), ?_⟩
    have : x ∉ (A3 t).added := fun q => (b2.1 q).2 g
    simp [this]
/-- What ArenaUndoes asks. -/
theorem undo_law (h1 : Rel S1 A1) (ht : t < 64) (hp : Has S1 A1 t p Tl) (hm : Made t (nodes Tm) (markS S1 t) (markA A1 t) 0 S3 A3 0) (hq : Has S3 A3 t q Tm) :
    Rel (undoS S3 t) (undoA A3 t) ∧ Has (undoS S3 t) (undoA A3 t) t p Tl ∧ (undoS S3 t).count t = S1.count t ∧ Den (undoS S3 t) q Tm := by
  have hr := hm.st.rel.undo ht
  have hmk := h1.mark ht
  have hrest := rest_law h1 ht hm
  have hk2 : hasT (markA A1 t t).have_ Tl = true := by unfold markA; rw [upd_same]; exact hp.2
  refine ⟨hr.1, ⟨hr.2.den.2 (hm.st.stay t ht Tl p hk2 (hmk.2.den.2 hp.1)), has_nodes fun x hx => (hrest x).2 (h1.nodes_has ht hp.2 x hx)⟩, ?_, hr.2.den.2 hq.1⟩
  rw [hr.1.count ht, h1.count ht]
  have := nodup_len (hr.1.ok t ht).nodup (h1.ok t ht).nodup hrest
  show (((undoA A3 t) t).have_.length : Int) = _
  rw [show ((undoA A3 t) t).have_.length = (A1 t).have_.length from this]
theorem undo_again (h1 : Rel S1 A1) (ht : t < 64) (hm : Made t (nodes Tm) (markS S1 t) (markA A1 t) 0 S3 A3 0) (hq : Den (undoS S3 t) q Tm) (hm5 : Made t (nodes Tm) (undoS S3 t) (undoA A3 t) 0 S5 A5 0) (hst : Stays (fun _ => True) (undoS S3 t) S5) (hr : Has S5 A5 t r Tm) :
    r = q ∧ S5.count t = S3.count t := by
  have hrest := rest_law h1 ht hm
  refine ⟨Den.inj hr.1 (Den.stays hst hq), ?_⟩
  rw [hm5.st.rel.count ht, hm.st.rel.count ht]
  have : (A5 t).have_.length = (A3 t).have_.length := nodup_len (hm5.st.rel.ok t ht).nodup (hm.st.rel.ok t ht).nodup fun x => by
    rw [(hm5.ok rfl).2.1, hrest, (hm.ok rfl).2.1]
    unfold markA; rw [upd_same]
  rw [this]
end
end Go.Proofs.Ytdbhddkkcchmmaa

namespace Go.Proofs.Ytdbhddkkcchmmaa
open Go.RowKit

theorem sl_single (w : World) (x : Int) : Sl (w.alloc (.cells #[.int .i64 x] IT)) IT 1 (.slice (some ⟨w.heap.size, 0, none⟩) 1 1) 1 (intsV [x]) :=
  ⟨rfl, _, 1, rfl, Nat.le_refl _, (by unfold maxLen; omega), (fun h => nomatch h), (fun a ha => by obtain rfl := Option.some.inj ha; exact ⟨_, rfl, Blk.new _ _ _, by simp, rfl⟩)⟩
theorem node_sub : ∀ {T : Tree} {a b c d : Tree}, Thing.sq a b c d ∈ nodes T → Tree.node a b c d ∈ subs T
  | .dead, a, b, c, d, h => by simp [nodes] at h
  | .alive, a, b, c, d, h => by simp [nodes] at h
  | .node x0 x1 x2 x3, a, b, c, d, h => by
    simp only [subs, List.mem_cons, List.mem_append]
    rcases mem_nodes.1 h with q | q | q | q | q
    · injection q with e0 e1 e2 e3; subst e0 e1 e2 e3; exact .inl rfl
    · exact .inr (.inl (.inl (.inl (node_sub q))))
    · exact .inr (.inl (.inl (.inr (node_sub q))))
    · exact .inr (.inl (.inr (node_sub q)))
    · exact .inr (.inr (node_sub q))
theorem nodes_sq : ∀ {T : Tree} {x : Thing}, x ∈ nodes T → ∃ a b c d, x = .sq a b c d
  | .dead, x, h => by simp [nodes] at h
  | .alive, x, h => by simp [nodes] at h
  | .node x0 x1 x2 x3, x, h => by
    rcases mem_nodes.1 h with q | q | q | q | q
    · exact ⟨_, _, _, _, q⟩
    · exact nodes_sq q
    · exact nodes_sq q
    · exact nodes_sq q
    · exact nodes_sq q
theorem keep_nodes {T : Tree} {x : Thing} (h : x ∈ nodes T) : keepT T x = true := by
  obtain ⟨a, b, c, d, rfl⟩ := nodes_sq h
  exact decide_eq_true (node_sub h)
def cleanA (A : Nat → Abs) (t : Nat) (T : Tree) : Nat → Abs := upd A t ⟨(A t).have_.filter (keepT T), []⟩
section
variable {S S' S2 : ArS} {A : Nat → Abs} {t u : Nat} {T U : Tree} {p q : Int} {n : Nat}
/-- What Clean leaves. -/
theorem clean_law (h : Rel S A) (ht : t < 64) (hp : Has S A t p T) (ha : ∀ u, u < 64 → ((S.added u).length : Int) ≤ S.count u) (hc : CleanR S t [p] S') :
    Rel S' (cleanA A t T) ∧ Twin S S' ∧ Has S' (cleanA A t T) t p T ∧ (∀ u, u < 64 → ((S'.added u).length : Int) ≤ S'.count u) := by
  have hcl := h.clean ht hp.1 hp.2 hc
  refine ⟨hcl.1, hcl.2.1, ⟨hcl.2.1.den.2 hp.1, has_nodes fun x hx => ?_⟩, fun u hu => ?_⟩
  · unfold cleanA
    rw [upd_same]
    exact List.mem_filter.2 ⟨h.nodes_has ht hp.2 x hx, keep_nodes hx⟩
  · obtain ⟨L, _, _, rfl⟩ := hc
    show ((upd S.added t [] u).length : Int) ≤ _
    by_cases e : u = t
    · subst e; rw [upd_same]; exact (hcl.1.inv.cnt_le hu).1
    · rw [upd_ne _ _ e, hcl.1.count hu, upd_ne _ _ e, ← h.count hu]; exact ha u hu
theorem clean_other (tw : Twin S S') (hne : u ≠ t) (hq : Has S A u q U) : Has S' (cleanA A t T) u q U := by
  refine ⟨tw.den.2 hq.1, ?_⟩
  unfold cleanA; rw [upd_ne _ _ hne]; exact hq.2
/-- Cleaned twice is cleaned once. -/
theorem clean_twice (A : Nat → Abs) (t : Nat) (T : Tree) : ∀ v, (cleanA (cleanA A t T) t T v).have_ = (cleanA A t T v).have_ := fun v => by
  by_cases e : v = t
  · subst e
    unfold cleanA
    rw [upd_same, upd_same]
    show List.filter _ (List.filter _ _) = List.filter _ _
    rw [List.filter_filter]
    congr 1
    funext x
    simp
  · unfold cleanA
    rw [upd_ne _ _ e, upd_ne _ _ e]
/-- Behind a sweep everything is somebody's. -/
theorem sweep_all (h : Rel S A) (hs : SweepR S S' n) : ∀ (i : Nat) x, DenT S' i x → ∃ u, u < 64 ∧ x ∈ (A u).have_ := fun i x hd => by
  have hr := (h.sweep hs).1
  obtain ⟨S1, h1, rfl⟩ := hs
  have hf := h1.facts h.inv
  obtain ⟨e, he, hx⟩ := hd.ent
  have he : S1.ents[i]? = some e := he
  have hx : S1.idx e.key = some (i : Int) := hx
  have hm := hf.clean i e (by rw [← hf.len]; exact (List.getElem?_eq_some_iff.1 he).1) he hx
  obtain ⟨u, hu, hub⟩ := mask_bit hm (hf.inv.keys e (List.mem_of_getElem? he)).2.2.2
  exact ⟨u, hu, (hr.own u hu x).2 ⟨i, e, he, hub, hd⟩⟩
/-- Where everything is somebody's, a sweep frees nothing. -/
theorem sweep_zero (h : Rel S A) (hall : ∀ (i : Nat) x, DenT S i x → ∃ u, u < 64 ∧ x ∈ (A u).have_) (hs : SweepR S S' n) : n = 0 := by
  have hr := h.sweep hs
  have hl : S'.live = S.live - n := by obtain ⟨S1, _, rfl⟩ := hs; rfl
  obtain ⟨V, v1, v2, v3, v4⟩ := h.things
  obtain ⟨V', v1', v2', v3', v4'⟩ := hr.1.things
  have := List.Nodup.length_le_of_subset v1 (l₂ := V') fun x hx => by
    obtain ⟨i, hi⟩ := v4 x hx
    obtain ⟨u, hu, hm⟩ := hall i x hi
    obtain ⟨j, e, _, _, hd⟩ := (hr.1.own u hu x).1 hm
    exact v2' j x hd
  omega
end
end Go.Proofs.Ytdbhddkkcchmmaa

namespace Go.Proofs.Ytdbhddkkcchmmaa
open Go.RowKit

theorem near_okC {l : List (Int × Int)} {most : Nat} {near : Int} (h : 0 < near) (h2 : near ≤ 1099511627775) : ∀ c ∈ someL l most near, okC c := fun c hc => by
  have := someL_near h hc
  unfold okC okZ; omega

set_option maxRecDepth 100000 in
set_option maxHeartbeats 3200000 in
theorem quadShared_any (W : World) (n : Nat) (v : Value) (l : List (Int × Int)) (t u : Int) (hR : Rd W W.heap.size 2 v n (flat l)) (hin : ∀ c ∈ l, inC c) (ht : -9223372036854775808 ≤ t ∧ t ≤ 9223372036854775807) (hu : -9223372036854775808 ≤ u ∧ u ≤ 9223372036854775807) :
    Calls Try.prog 3 #[v, .int .i64 t, .int .i64 u] W fun e W' => e = .returned (.bool true) ∧ Below W.heap.size W W' := by
  have H1 := Lib.hid (some_lit W n 200 200 rfl v l 549755813888 hR hin (by decide) (by decide) (by decide))
  have HOK := Lib.hid (near_okC (l := l) (most := 200) (near := 549755813888) (by decide) (by decide))
  have HLN : Hid ((someL l 200 549755813888).length = min 200 n) := by have := hR.pairs.1; show _ = _; rw [someL_length, this]
  have HT := Lib.hid ht
  have HU := Lib.hid hu
  clear hR hin ht hu
  go_enter Try.func3, Try.ntmps3
  go_wp2_with fail
  (with_reducible refine H1.out.mono ?_)
  rintro e w1 ⟨v1, rfl, hs1, hf1, hb1⟩
  generalize hL : someL l 200 549755813888 = L at hs1 HOK HLN
  have hm1 : min 200 n ≤ 200 := Nat.min_le_left _ _
  generalize min 200 n = m at hs1 HLN hm1
  have HS1 := Lib.hid hs1
  have HB1 := Lib.hid hb1
  have HM1 := Lib.hid hm1
  clear hs1 hf1 hb1 H1 hL hm1
  go_wp2_with fail
  (with_reducible refine (spot_any t 62 (by omega) (by omega) HT.out.1 HT.out.2 _).mono ?_)
  rintro e wq ⟨rfl, rfl⟩
  go_wp2_with fail
  (with_reducible refine (spot_any u 62 (by omega) (by omega) HU.out.1 HU.out.2 _).mono ?_)
  rintro e wq ⟨rfl, rfl⟩
  obtain ⟨tn, htn, htl⟩ : ∃ tn : Nat, t % 62 = tn ∧ tn < 62 := ⟨(t % 62).toNat, by omega, by omega⟩
  obtain ⟨un, hun, hul⟩ : ∃ un : Nat, u % 62 = un ∧ un < 62 := ⟨(u % 62).toNat, by omega, by omega⟩
  rw [htn, hun]
  have HTL := Lib.hid htl
  have HUL := Lib.hid hul
  clear htn hun htl hul HT HU
  go_wp2_with fail
  (with_reducible refine (begunQ_any w1).mono ?_)
  rintro e w2 ⟨p, R, S, A, rfl, hA, hn, hro, hqu, hV, hb2, hfr⟩
  have HA := Lib.hid hA
  have HN := Lib.hid hn
  have HRO := Lib.hid hro
  have HQU := Lib.hid hqu
  have HV := Lib.hid hV
  have HB2 := Lib.hid hb2
  have HFR := Lib.hid hfr
  clear hA hn hro hqu hV hb2 hfr
  go_wp2_with fail
  (with_reducible refine (from_any w2 p R S A HA.out tn (by have := HTL.out; omega) w1.heap.size m v1 L (HS1.out.rd.below HB2.out) HB2.out.size (by have := HM1.out; omega) HOK.out).mono ?_)
  rintro e w3 ⟨k, hk, hk40, r, S1, A1, R1, bad1, rfl, hm, hh, hA1, hst⟩
  obtain ⟨rfl, ⟨V1, hV1, hV1l⟩, _⟩ := made_fine (by omega) HV.out (by have := HLN.out; have := HM1.out; simp only [List.length_singleton]; omega) HRO.out (HQU.out tn (by have := HTL.out; omega)) hm
  rw [if_pos rfl]
  have HK := Lib.hid hk
  have HM := Lib.hid hm
  have HH := Lib.hid (hh rfl)
  have HA1 := Lib.hid hA1
  have HST := Lib.hid hst
  have HLV : Hid (S1.live < 200000) := by have h1 := hA1.rel.live_le hV1; have h2 := HLN.out; have h3 := HM1.out; simp only [List.length_singleton] at hV1l; show S1.live < 200000; omega
  clear hk hk40 hm hh hA1 hst hV1 hV1l HA HV
  go_wp2_with fail
  (with_reducible refine (live_any w3 p R1 S1 HA1.out.arm).mono ?_)
  rintro e wq ⟨rfl, rfl⟩
  go_wp2_with fail
  (with_reducible refine (count_any w3 p R1 S1 HA1.out.arm tn (by have := HTL.out; omega)).mono ?_)
  rintro e wq ⟨rfl, rfl⟩
  go_wp2_with fail
  obtain ⟨hb3, hf3⟩ := HST.out.low HB2.out.size HFR.out
  have HB3 := Lib.hid (HB2.out.trans hb3)
  have HF3 := Lib.hid hf3
  clear hb3 hf3 HST HFR HB2
  (with_reducible refine (from_any w3 p R1 S1 A1 HA1.out un (by have := HUL.out; omega) w1.heap.size m v1 L (HS1.out.rd.below HB3.out) HB3.out.size (by have := HM1.out; omega) HOK.out).mono ?_)
  rintro e w4 ⟨k2, hk, hk40, q, S2, A2, R2, bad2, rfl, hm, hh, hA2, hst⟩
  obtain rfl : k = k2 := leastK_unique HK.out hk (fun _ => Iff.rfl)
  have hrm : S1.live < S1.room := by rw [HM.out.st.room, HRO.out]; exact HLV.out
  have hqt : S1.live < S1.quota un := by rw [HM.out.st.quota, HQU.out un (by have := HUL.out; omega)]; exact HLV.out
  obtain ⟨V, v1', v2, v3, v4⟩ := HA1.out.rel.things
  obtain ⟨rfl, _⟩ := hm.enough V v2 (fun x hx => by obtain ⟨i, hi⟩ := HH.out.1.nodes x hx; exact v2 i x hi) (by omega) (by omega)
  obtain ⟨hpq, hl2, hc1, hc2⟩ := shared_law HTL.out HUL.out HN.out HM.out HH.out hm (hh rfl) hrm hqt
  rw [if_pos rfl]
  obtain ⟨hb4, _⟩ := hst.low HB3.out.size HF3.out
  have HB4 : Hid (Below W.heap.size W w4) := HB1.out.trans ((HB3.out.trans hb4).mono HB1.out.size)
  have HA2 := Lib.hid hA2
  subst hpq
  have HL2 := Lib.hid hl2
  have HC1 := Lib.hid hc1
  have HC2 := Lib.hid hc2
  clear hk hk40 hm hh hA2 hst hb4 hl2 hc1 hc2 hrm hqt v1' v2 v3 v4
  go_wp2_with fail
  (with_reducible refine (live_any w4 p R2 S2 HA2.out.arm).mono ?_)
  rintro e wq ⟨rfl, rfl⟩
  rw [HL2.out]
  go_wp2_with fail
  (with_reducible refine (count_any w4 p R2 S2 HA2.out.arm tn (by have := HTL.out; omega)).mono ?_)
  rintro e wq ⟨rfl, rfl⟩
  rw [HC1.out]
  go_wp2_with fail
  (with_reducible refine (count_any w4 p R2 S2 HA2.out.arm un (by have := HUL.out; omega)).mono ?_)
  rintro e wq ⟨rfl, rfl⟩
  rw [HC2.out]
  go_wp2_with fail
  go_ret
  exact ⟨rfl, HB4.out⟩
end Go.Proofs.Ytdbhddkkcchmmaa

namespace Go.Proofs.Ytdbhddkkcchmmaa
open Go.RowKit

theorem cast_one : ((1 : Nat) : Int) = 1 := rfl
theorem cast_two : ((2 : Nat) : Int) = 2 := rfl

set_option maxRecDepth 100000 in
set_option maxHeartbeats 6400000 in
theorem arenaUndoes_any (W : World) (n1 : Nat) (va : Value) (la : List (Int × Int)) (n2 : Nat) (vb : Value) (lb : List (Int × Int)) (hRa : Rd W W.heap.size 2 va n1 (flat la)) (hina : ∀ c ∈ la, inC c) (hRb : Rd W W.heap.size 2 vb n2 (flat lb)) (hinb : ∀ c ∈ lb, inC c) :
    Calls Try.prog 5 #[va, vb] W fun e W' => e = .returned (.bool true) ∧ Below W.heap.size W W' := by
  have H1 := Lib.hid (some_lit W n1 100 100 rfl va la 1073741824 hRa hina (by decide) (by decide) (by decide))
  have HOL := Lib.hid (near_okC (l := la) (most := 100) (near := 1073741824) (by decide) (by decide))
  have HOM := Lib.hid (near_okC (l := lb) (most := 100) (near := 1073741824) (by decide) (by decide))
  have HLN : Hid ((someL la 100 1073741824).length = min 100 n1) := by have := hRa.pairs.1; show _ = _; rw [someL_length, this]
  have HMN : Hid ((someL lb 100 1073741824).length = min 100 n2) := by have := hRb.pairs.1; show _ = _; rw [someL_length, this]
  have HRB := Lib.hid hRb
  have HIB := Lib.hid hinb
  clear hRa hina hRb hinb
  go_enter Try.func5, Try.ntmps5
  go_wp2_with fail
  (with_reducible refine H1.out.mono ?_)
  rintro e w1 ⟨v1, rfl, hs1, hf1, hb1⟩
  have H2 := Lib.hid (some_lit w1 n2 100 100 rfl vb lb 1073741824 ((HRB.out.below hb1).more hb1.size) HIB.out (by decide) (by decide) (by decide))
  generalize someL la 100 1073741824 = L at hs1 HOL HLN
  have hm1 : min 100 n1 ≤ 100 := Nat.min_le_left _ _
  generalize min 100 n1 = m1 at hs1 HLN hm1
  have HS1 := Lib.hid hs1
  have HB1 := Lib.hid hb1
  have HM1 := Lib.hid hm1
  clear hs1 hf1 hb1 H1 hm1
  go_wp2_with fail
  (with_reducible refine H2.out.mono ?_)
  rintro e w2 ⟨v2, rfl, hs2, hf2, hb2⟩
  generalize someL lb 100 1073741824 = M at hs2 HOM HMN
  have hm2 : min 100 n2 ≤ 100 := Nat.min_le_left _ _
  generalize min 100 n2 = m2 at hs2 HMN hm2
  have HM2 := Lib.hid hm2
  have HD1 : Hid (∀ wx, Below w2.heap.size w2 wx → Rd wx w2.heap.size 2 v1 m1 (flat L)) := fun wx h => ((HS1.out.rd.below hb2).more hb2.size).below h
  have HD2 : Hid (∀ wx, Below w2.heap.size w2 wx → Rd wx w2.heap.size 2 v2 m2 (flat M)) := fun wx h => hs2.rd.below h
  have HB2 : Hid (Below W.heap.size W w2) := HB1.out.trans (hb2.mono HB1.out.size)
  clear hs2 hf2 hb2 H2 hm2 HS1 HB1 HRB HIB
  go_wp2_with fail
  (with_reducible refine (begunQ_any w2).mono ?_)
  rintro e w3 ⟨p, R, S, A, rfl, hA, hn, hro, hqu, hV, hb3, hfr⟩
  have HA := Lib.hid hA
  have HN := Lib.hid hn
  have HRO := Lib.hid hro
  have HQU := Lib.hid hqu
  have HV := Lib.hid hV
  have HB3 := Lib.hid hb3
  have HF3 := Lib.hid hfr
  clear hA hn hro hqu hV hb3 hfr
  go_wp2_with fail
  have hq := from_any w3 p R S A HA.out 1 (by decide) w2.heap.size m1 v1 L (HD1.out w3 HB3.out) HB3.out.size (by have := HM1.out; omega) HOL.out
  rw [cast_one] at hq
  (with_reducible refine hq.mono ?_)
  clear hq
  rintro e w4 ⟨k1, hk, hk40, p1, S1, A1, R1, bad, rfl, hm, hh, hA1, hst⟩
  obtain ⟨rfl, ⟨V1, hV1, hV1l⟩, hstay⟩ := made_fine (by omega) HV.out (by have := HLN.out; have := HM1.out; simp only [List.length_singleton]; omega) HRO.out (HQU.out 1 (by decide)) hm
  rw [if_pos rfl]
  obtain ⟨hb, hf⟩ := hst.low HB3.out.size HF3.out
  have HB4 := Lib.hid (HB3.out.trans hb)
  have HF4 := Lib.hid hf
  have HK1 := Lib.hid hk
  have HP1 := Lib.hid (hh rfl)
  have HA1 := Lib.hid hA1
  have HRQ : Hid (S1.room = 200000 ∧ S1.quota 1 = 200000) := ⟨hm.st.room.trans HRO.out, by rw [hm.st.quota]; exact HQU.out 1 (by decide)⟩
  have HV1 := Lib.hid hV1
  have HL1 : Hid (V1.length ≤ 5000) := by have h2 := HLN.out; have h3 := HM1.out; simp only [List.length_singleton] at hV1l; show V1.length ≤ 5000; omega
  have HK40 := Lib.hid hk40
  clear hk hk40 hm hh hA1 hst hV1 hV1l hstay hb hf HA HV HRO HQU HN HB3 HF3
  go_wp2_with fail
  have hq := count_any w4 p R1 S1 HA1.out.arm 1 (by decide)
  rw [cast_one] at hq
  (with_reducible refine hq.mono ?_)
  clear hq
  rintro e wq ⟨rfl, rfl⟩
  go_wp2_with fail
  have hq := mark_any w4 p R1 S1 HA1.out.arm 1 (by decide)
  rw [cast_one] at hq
  (with_reducible refine hq.mono ?_)
  clear hq
  rintro e w5 ⟨rfl, ha5, hs5⟩
  have HA5 : Hid (Ar w5 p { R1 with av := upd R1.av 1 nilV } (markS S1 1) (markA A1 1)) := ⟨ha5, (HA1.out.rel.mark (by decide)).1, markS_add HA1.out.rel HA1.out.add⟩
  obtain ⟨hb, hf⟩ := (hs5.toH NoX).low HB4.out.size HF4.out
  have HB5 := Lib.hid (HB4.out.trans hb)
  have HF5 := Lib.hid hf
  have HV5 : Hid (Within (markS S1 1) V1) := within_twin (HA1.out.rel.mark (by decide)).2 HV1.out
  have HQ5 : Hid ((markS S1 1).room = 200000 ∧ (markS S1 1).quota 1 = 200000) := HRQ.out
  clear ha5 hs5 hb hf
  generalize ({ R1 with av := upd R1.av 1 nilV } : ArR) = R5 at HA5 HF5
  go_wp2_with fail
  have hq := from_any w5 p R5 (markS S1 1) (markA A1 1) HA5.out 1 (by decide) w2.heap.size m2 v2 M (HD2.out w5 HB5.out) HB5.out.size (by have := HM2.out; omega) HOM.out
  rw [cast_one] at hq
  (with_reducible refine hq.mono ?_)
  clear hq
  rintro e w6 ⟨k2, hk, hk40, q1, S6, A6, R6, bad, rfl, hm, hh, hA1, hst⟩
  obtain ⟨rfl, ⟨V6, hV1, hV1l⟩, hstay⟩ := made_fine (by omega) HV5.out (by have := HMN.out; have := HM2.out; have := HL1.out; omega) HQ5.out.1 HQ5.out.2 hm
  rw [if_pos rfl]
  obtain ⟨hb, hf⟩ := hst.low HB5.out.size HF5.out
  have HB6 := Lib.hid (HB5.out.trans hb)
  have HF6 := Lib.hid hf
  have HK2 := Lib.hid hk
  have HP6 := Lib.hid (hh rfl)
  have HA6 := Lib.hid hA1
  have HM6 := Lib.hid hm
  have HV6 := Lib.hid hV1
  have HL6 : Hid (V6.length ≤ 10000) := by have h1 := HL1.out; have h2 := HMN.out; have h3 := HM2.out; show V6.length ≤ 10000; omega
  have HUL := Lib.hid (undo_law HA1.out.rel (by decide) HP1.out hm (hh rfl))
  clear hk hk40 hm hh hA1 hst hV1 hV1l hstay hb hf
  go_wp2_with fail
  have hq := count_any w6 p R6 S6 HA6.out.arm 1 (by decide)
  rw [cast_one] at hq
  (with_reducible refine hq.mono ?_)
  clear hq
  rintro e wq ⟨rfl, rfl⟩
  go_wp2_with fail
  have hq := undo_any w6 p R6 S6 HA6.out.arm HA6.out.rel.inv 1 (by decide)
  rw [cast_one] at hq
  (with_reducible refine hq.mono ?_)
  clear hq
  rintro e w7 ⟨rfl, ha7, hs7⟩
  have HA7 : Hid (Ar w7 p { R6 with av := upd R6.av 1 nilV } (undoS S6 1) (undoA A6 1)) := ⟨ha7, HUL.out.1, undoS_add HA6.out.rel (by decide) HA6.out.add⟩
  obtain ⟨hb, hf⟩ := (hs7.toH NoX).low HB6.out.size HF6.out
  have HB7 := Lib.hid (HB6.out.trans hb)
  have HF7 := Lib.hid hf
  have HV7 : Hid (Within (undoS S6 1) V6) := within_twin (HA6.out.rel.undo (by decide)).2 HV6.out
  have hle7 := loseL_less 1 (S6.added 1) S6
  have HQ7 : Hid ((undoS S6 1).room = 200000 ∧ (undoS S6 1).quota 1 = 200000) := ⟨by show (loseL S6 1 (S6.added 1)).room = _; rw [hle7.room, HM6.out.st.room]; exact HQ5.out.1, by show (loseL S6 1 (S6.added 1)).quota 1 = _; rw [hle7.quota, HM6.out.st.quota]; exact HQ5.out.2⟩
  rw [HUL.out.2.2.1]
  clear ha7 hs7 hb hf hle7
  generalize ({ R6 with av := upd R6.av 1 nilV } : ArR) = R7 at HA7 HF7
  have hrch := HK1.out.2.1
  have hq := cells2_any w7 p R7 (undoS S6 1) (undoA A6 1) HA7.out 1 (by decide) (setOfL L) k1 (by have := HK40.out; omega) p1 HUL.out.2.1 (Nat.le_trans (cells_len hrch) (by have := HLN.out; have := HM1.out; omega)) (fun c hc => HOL.out c ((cells_list hrch c).1 hc))
  rw [cast_one] at hq
  have HCC := Lib.hid hq
  clear hq
  go_wp2_with fail
  (with_reducible refine HCC.out.mono ?_)
  rintro e w8 ⟨cq, cm, cs, rfl, hcs, hcsl, hcf, hca, hcst⟩
  have HCS : Hid (Tid L cs) := ⟨hcs.1, fun c => (hcs.2 c).trans (cells_list hrch c)⟩
  have HCL := Lib.hid hcsl
  have HA8 := Lib.hid hca
  obtain ⟨hb, hf⟩ := hcst.low HB7.out.size HF7.out
  have HB8 := Lib.hid (HB7.out.trans hb)
  have HF8 := Lib.hid hf
  have HCN : Hid (∀ b, sblk (.slice cq cm cm) = some b → ¬ Own p R7 b) := fun b hb => (hcf b hb).2
  clear hcs hcsl hcf hca hcst hb hf HCC hrch
  go_wp2_with fail
  (with_reducible refine (tidy_ok w8 w2.heap.size m1 v1 L (HD1.out w8 HB8.out) HB8.out.size (by have := HM1.out; omega) HOL.out).mono ?_)
  rintro e w9 ⟨tq, tm, ts, rfl, hts, htsl, htf, hb9⟩
  obtain rfl : ts = cs := hts.unique HCS.out
  obtain rfl : tm = cm := by have e1 := htsl.1; have e2 := HCL.out.1; rw [flat_length] at e1 e2; omega
  have HA9 := Lib.hid (HA8.out.below hb9)
  have HB9 := Lib.hid (HB8.out.trans (hb9.mono HB8.out.size))
  have HCL9 := Lib.hid (HCL.out.below hb9)
  have HTL := Lib.hid htsl
  have HTN : Hid (∀ b, sblk (.slice tq tm tm) = some b → ¬ Own p R7 b) := fun b hb ho => by have h1 := htf b hb; have h2 := HA8.out.arm.own_lt ho; omega
  clear hts htsl htf hb9 HCL
  go_wp2_with fail
  have hq := from_any w9 p R7 (undoS S6 1) (undoA A6 1) HA9.out 1 (by decide) w2.heap.size m2 v2 M (HD2.out w9 HB9.out) HB9.out.size (by have := HM2.out; omega) HOM.out
  rw [cast_one] at hq
  (with_reducible refine hq.mono ?_)
  clear hq
  rintro e w10 ⟨k3, hk, hk40, r1, S10, A10, R10, bad, rfl, hm, hh, hA1, hst⟩
  obtain ⟨rfl, ⟨V10, hV1, hV1l⟩, hstay⟩ := made_fine (by omega) HV7.out (by have := HMN.out; have := HM2.out; have := HL6.out; omega) HQ7.out.1 HQ7.out.2 hm
  rw [if_pos rfl]
  obtain ⟨hb, hf⟩ := hst.low HB9.out.size HF8.out
  have HB10 := Lib.hid (HB9.out.trans hb)
  have HF10 := Lib.hid hf
  obtain rfl : k2 = k3 := leastK_unique HK2.out hk (fun _ => Iff.rfl)
  obtain ⟨hrq, hcnt⟩ := undo_again HA1.out.rel (by decide) HM6.out HUL.out.2.2.2 hm hstay (hh rfl)
  subst hrq
  have HCNT := Lib.hid hcnt
  have HA10 := Lib.hid hA1
  have HX := Lib.hid (HCL9.out.mod hst.mod fun b hb ho => by
    rcases ho with ho | ho
    · exact HCN.out b hb ho
    · exact ho)
  have HY := Lib.hid (HTL.out.mod hst.mod fun b hb ho => by
    rcases ho with ho | ho
    · exact HTN.out b hb ho
    · exact ho)
  have hn0 : (S6.count 1 - S1.count 1 == S6.count 1 - S1.count 1) = true := by simp
  have hbd : -4000000 ≤ S6.count 1 ∧ S6.count 1 ≤ 4000000 := by have := HA6.out.rel.inv.cnt_le (t := 1) (by decide); omega
  have hbd2 : -4000000 ≤ S1.count 1 ∧ S1.count 1 ≤ 4000000 := by have := HA1.out.rel.inv.cnt_le (t := 1) (by decide); omega
  obtain ⟨hbd3, hbd4⟩ := hbd
  obtain ⟨hbd5, hbd6⟩ := hbd2
  clear hk hk40 hm hh hA1 hst hV1 hV1l hstay hb hf hcnt
  go_wp2_with fail
  (with_reducible refine (same_true w10 w10.heap.size w10.heap.size tm _ _ ts HX.out.rd HY.out.rd).mono ?_)
  rintro e w11 ⟨rfl, d, rfl⟩
  have HA11 := Lib.hid (HA10.out.arm.drewN d)
  have HB11 : Hid (Below W.heap.size W (w10.drewN d)) := below_drewN (HB2.out.trans (HB10.out.mono HB2.out.size)) d
  generalize w10.drewN d = w11 at HA11 HB11 ⊢
  go_wp2_with fail
  have hq := count_any w11 p R10 S10 HA11.out 1 (by decide)
  rw [cast_one] at hq
  (with_reducible refine hq.mono ?_)
  clear hq
  rintro e wq ⟨rfl, rfl⟩
  rw [HCNT.out]
  go_wp2_with fail
  go_ret
  exact ⟨rfl, HB11.out⟩
end Go.Proofs.Ytdbhddkkcchmmaa

namespace Go.Proofs.Ytdbhddkkcchmmaa
open Go.RowKit

set_option maxRecDepth 100000 in
set_option maxHeartbeats 6400000 in
theorem arenaKeeps_any (W : World) (n1 : Nat) (va : Value) (la : List (Int × Int)) (n2 : Nat) (vb : Value) (lb : List (Int × Int)) (hRa : Rd W W.heap.size 2 va n1 (flat la)) (hina : ∀ c ∈ la, inC c) (hRb : Rd W W.heap.size 2 vb n2 (flat lb)) (hinb : ∀ c ∈ lb, inC c) :
    Calls Try.prog 6 #[va, vb] W fun e W' => e = .returned (.bool true) ∧ Below W.heap.size W W' := by
  have H1 := Lib.hid (some_lit W n1 100 100 rfl va la 1073741824 hRa hina (by decide) (by decide) (by decide))
  have HOL := Lib.hid (near_okC (l := la) (most := 100) (near := 1073741824) (by decide) (by decide))
  have HOM := Lib.hid (near_okC (l := lb) (most := 100) (near := 1073741824) (by decide) (by decide))
  have HLN : Hid ((someL la 100 1073741824).length = min 100 n1) := by have := hRa.pairs.1; show _ = _; rw [someL_length, this]
  have HMN : Hid ((someL lb 100 1073741824).length = min 100 n2) := by have := hRb.pairs.1; show _ = _; rw [someL_length, this]
  have HRB := Lib.hid hRb
  have HIB := Lib.hid hinb
  clear hRa hina hRb hinb
  go_enter Try.func6, Try.ntmps6
  go_wp2_with fail
  (with_reducible refine H1.out.mono ?_)
  rintro e w1 ⟨v1, rfl, hs1, hf1, hb1⟩
  have H2 := Lib.hid (some_lit w1 n2 100 100 rfl vb lb 1073741824 ((HRB.out.below hb1).more hb1.size) HIB.out (by decide) (by decide) (by decide))
  generalize someL la 100 1073741824 = L at hs1 HOL HLN
  have hm1 : min 100 n1 ≤ 100 := Nat.min_le_left _ _
  generalize min 100 n1 = m1 at hs1 HLN hm1
  have HS1 := Lib.hid hs1
  have HB1 := Lib.hid hb1
  have HM1 := Lib.hid hm1
  clear hs1 hf1 hb1 H1 hm1
  go_wp2_with fail
  (with_reducible refine H2.out.mono ?_)
  rintro e w2 ⟨v2, rfl, hs2, hf2, hb2⟩
  generalize someL lb 100 1073741824 = M at hs2 HOM HMN
  have hm2 : min 100 n2 ≤ 100 := Nat.min_le_left _ _
  generalize min 100 n2 = m2 at hs2 HMN hm2
  have HM2 := Lib.hid hm2
  have HD1 : Hid (∀ wx, Below w2.heap.size w2 wx → Rd wx w2.heap.size 2 v1 m1 (flat L)) := fun wx h => ((HS1.out.rd.below hb2).more hb2.size).below h
  have HD2 : Hid (∀ wx, Below w2.heap.size w2 wx → Rd wx w2.heap.size 2 v2 m2 (flat M)) := fun wx h => hs2.rd.below h
  have HB2 : Hid (Below W.heap.size W w2) := HB1.out.trans (hb2.mono HB1.out.size)
  clear hs2 hf2 hb2 H2 hm2 HS1 HB1 HRB HIB
  go_wp2_with fail
  (with_reducible refine (begunQ_any w2).mono ?_)
  rintro e w3 ⟨p, R, S, A, rfl, hA, hn, hro, hqu, hV, hb3, hfr⟩
  have HA := Lib.hid hA
  have HN := Lib.hid hn
  have HRO := Lib.hid hro
  have HQU := Lib.hid hqu
  have HV := Lib.hid hV
  have HB3 := Lib.hid hb3
  have HF3 := Lib.hid hfr
  clear hA hn hro hqu hV hb3 hfr
  go_wp2_with fail
  have hq := from_any w3 p R S A HA.out 1 (by decide) w2.heap.size m1 v1 L (HD1.out w3 HB3.out) HB3.out.size (by have := HM1.out; omega) HOL.out
  rw [cast_one] at hq
  (with_reducible refine hq.mono ?_)
  clear hq
  rintro e w4 ⟨k1, hk, hk40, p1, S1, A1, R1, bad, rfl, hm, hh, hA1, hst⟩
  obtain ⟨rfl, ⟨V1, hV1, hV1l⟩, hstay⟩ := made_fine (by omega) HV.out (by have := HLN.out; have := HM1.out; simp only [List.length_singleton]; omega) HRO.out (HQU.out 1 (by decide)) hm
  rw [if_pos rfl]
  obtain ⟨hb, hf⟩ := hst.low HB3.out.size HF3.out
  have HB4 := Lib.hid (HB3.out.trans hb)
  have HF4 := Lib.hid hf
  have HK1 := Lib.hid hk
  have HK40 := Lib.hid hk40
  have HP1 := Lib.hid (hh rfl)
  have HA1 := Lib.hid hA1
  have HRQ : Hid (S1.room = 200000 ∧ ∀ t, t < 64 → S1.quota t = 200000) := ⟨hm.st.room.trans HRO.out, fun t ht => by rw [hm.st.quota]; exact HQU.out t ht⟩
  have HV1 := Lib.hid hV1
  have HL1 : Hid (V1.length ≤ 5000) := by have h2 := HLN.out; have h3 := HM1.out; simp only [List.length_singleton] at hV1l; show V1.length ≤ 5000; omega
  clear hk hk40 hm hh hA1 hst hV1 hV1l hstay hb hf HA HV HRO HQU HN HB3 HF3
  go_wp2_with fail
  have hq := from_any w4 p R1 S1 A1 HA1.out 2 (by decide) w2.heap.size m2 v2 M (HD2.out w4 HB4.out) HB4.out.size (by have := HM2.out; omega) HOM.out
  rw [cast_two] at hq
  (with_reducible refine hq.mono ?_)
  clear hq
  rintro e w5 ⟨k2, hk, hk40, q1, S5, A5, R5, bad, rfl, hm, hh, hA1, hst⟩
  obtain ⟨rfl, ⟨V5, hV1, hV1l⟩, hstay⟩ := made_fine (by omega) HV1.out (by have := HMN.out; have := HM2.out; have := HL1.out; omega) HRQ.out.1 (HRQ.out.2 2 (by decide)) hm
  rw [if_pos rfl]
  obtain ⟨hb, hf⟩ := hst.low HB4.out.size HF4.out
  have HB5 := Lib.hid (HB4.out.trans hb)
  have HF5 := Lib.hid hf
  have HK2 := Lib.hid hk
  have HK240 := Lib.hid hk40
  have HQ5 := Lib.hid (hh rfl)
  have HP5 := Lib.hid (HP1.out.1 |> fun _ => show Has S5 A5 1 p1 (rootT (setOfL L) k1) from ⟨hm.st.stay 1 (by decide) _ p1 HP1.out.2 HP1.out.1, hm.st.hasT HP1.out.2⟩)
  have HA5 := Lib.hid hA1
  have HRQ5 : Hid (S5.room = 200000 ∧ ∀ t, t < 64 → S5.quota t = 200000) := ⟨hm.st.room.trans HRQ.out.1, fun t ht => by rw [hm.st.quota]; exact HRQ.out.2 t ht⟩
  have HV5 := Lib.hid hV1
  have HL5 : Hid (V5.length ≤ 10000) := by have h1 := HL1.out; have h2 := HMN.out; have h3 := HM2.out; show V5.length ≤ 10000; omega
  clear hk hk40 hm hh hA1 hst hV1 hV1l hstay hb hf HA1 HV1 HRQ HP1 HB4 HF4
  go_wp2_with fail
  have hq := from_any w5 p R5 S5 A5 HA5.out 1 (by decide) w2.heap.size m2 v2 M (HD2.out w5 HB5.out) HB5.out.size (by have := HM2.out; omega) HOM.out
  rw [cast_one] at hq
  (with_reducible refine hq.mono ?_)
  clear hq
  rintro e w6 ⟨k3, hk, hk40, r1, S6, A6, R6, bad, rfl, hm, hh, hA1, hst⟩
  obtain ⟨rfl, ⟨V6, hV1, hV1l⟩, hstay⟩ := made_fine (by omega) HV5.out (by have := HMN.out; have := HM2.out; have := HL5.out; omega) HRQ5.out.1 (HRQ5.out.2 1 (by decide)) hm
  rw [if_pos rfl]
  obtain ⟨hb, hf⟩ := hst.low HB5.out.size HF5.out
  have HB6 := Lib.hid (HB5.out.trans hb)
  have HF6 := Lib.hid hf
  have HP6 : Hid (Has S6 A6 1 p1 (rootT (setOfL L) k1)) := HP5.out.st (by decide) hm.st
  have HQ6 : Hid (Has S6 A6 2 q1 (rootT (setOfL M) k2)) := ⟨hm.st.stay 2 (by decide) _ q1 HQ5.out.2 HQ5.out.1, hm.st.hasT HQ5.out.2⟩
  have HA6 := Lib.hid hA1
  have HPR := Lib.hid (HP6.out.1.i64 hA1.rel.inv)
  clear hk hk40 hm hh hA1 hst hV1 hV1l hstay hb hf HA5 HV5 HRQ5 HP5 HQ5 HB5 HF5
  have HAX := Lib.hid (HA6.out.below ((Below.refl _ _).alloc (Nat.le_refl _) (.cells #[.int .i64 p1] IT)))
  have HSX := Lib.hid (sl_single w6 p1)
  have hq := clean_any _ p R6 S6 HAX.out.arm HAX.out.rel.inv 1 (by decide) _ 1 [p1] HSX.out (by decide) (fun x hx => by rw [List.mem_singleton.1 hx]; exact HPR.out)
  rw [cast_one] at hq
  have HCL := Lib.hid hq
  clear hq
  go_wp2_with fail
  (with_reducible refine HCL.out.mono ?_)
  rintro e w7 ⟨S7, R7, rfl, hcr, ha7, hs7⟩
  obtain ⟨c1, c2, c3, c4⟩ := clean_law HA6.out.rel (by decide) HP6.out HA6.out.add hcr
  have HA7 : Hid (Ar w7 p R7 S7 (cleanA A6 1 (rootT (setOfL L) k1))) := ⟨ha7, c1, c4⟩
  have HP7 := Lib.hid c3
  have HQ7 : Hid (Has S7 (cleanA A6 1 (rootT (setOfL L) k1)) 2 q1 (rootT (setOfL M) k2)) := clean_other c2 (by decide) HQ6.out
  have hst7 : StepH NoX p R6 R7 w6 w7 := (StepH.of_below ((Below.refl _ _).alloc (Nat.le_refl _) (.cells #[.int .i64 p1] IT))).trans (hs7.toH NoX)
  obtain ⟨hb, hf⟩ := hst7.low HB6.out.size HF6.out
  have HB7 := Lib.hid (HB6.out.trans hb)
  have HF7 := Lib.hid hf
  clear hcr ha7 hs7 c1 c2 c3 c4 hst7 hb hf HCL HAX HSX
  obtain ⟨A7, hA7⟩ : ∃ A7, cleanA A6 1 (rootT (setOfL L) k1) = A7 := ⟨_, rfl⟩
  have HAE := Lib.hid hA7
  rw [hA7] at HA7 HP7 HQ7
  clear hA7
  go_wp2_with fail
  (with_reducible refine (sweep_any w7 p R7 S7 HA7.out.arm HA7.out.rel.inv HA7.out.rel.live).mono ?_)
  rintro e w8 ⟨ns, S8, R8, rfl, hsw, ha8, hs8⟩
  have hkp := sweep_keeps HA7.out.rel.inv hsw
  have HA8 : Hid (Ar w8 p R8 S8 A7) := ⟨ha8, (HA7.out.rel.sweep hsw).1, fun u hu => by rw [hkp.1, hkp.2.2.1]; exact HA7.out.add u hu⟩
  have HP8 : Hid (Has S8 A7 1 p1 (rootT (setOfL L) k1)) := ⟨HA7.out.rel.sweep_stay hsw 1 (by decide) _ _ HP7.out.2 HP7.out.1, HP7.out.2⟩
  have HQ8 : Hid (Has S8 A7 2 q1 (rootT (setOfL M) k2)) := ⟨HA7.out.rel.sweep_stay hsw 2 (by decide) _ _ HQ7.out.2 HQ7.out.1, HQ7.out.2⟩
  have HALL := Lib.hid (sweep_all HA7.out.rel hsw)
  obtain ⟨hb, hf⟩ := (hs8.toH NoX).low HB7.out.size HF7.out
  have HB8 := Lib.hid (HB7.out.trans hb)
  have HF8 := Lib.hid hf
  clear hsw ha8 hs8 hkp hb hf
  have hrch := HK1.out.2.1
  have hq := cells2_any w8 p R8 S8 A7 HA8.out 1 (by decide) (setOfL L) k1 (by have := HK40.out; omega) p1 HP8.out (Nat.le_trans (cells_len hrch) (by have := HLN.out; have := HM1.out; omega)) (fun c hc => HOL.out c ((cells_list hrch c).1 hc))
  rw [cast_one] at hq
  have HCC := Lib.hid hq
  clear hq
  go_wp2_with fail
  (with_reducible refine HCC.out.mono ?_)
  rintro e w9 ⟨cq, cm, cs, rfl, hcs, hcsl, hcf, hca, hcst⟩
  have HCS : Hid (Tid L cs) := ⟨hcs.1, fun c => (hcs.2 c).trans (cells_list hrch c)⟩
  have HCL := Lib.hid hcsl
  have HA9 := Lib.hid hca
  have HSTC := Lib.hid hcst
  obtain ⟨hb, hf⟩ := hcst.low HB8.out.size HF8.out
  have HB9 := Lib.hid (HB8.out.trans hb)
  have HF9 := Lib.hid hf
  have HCN : Hid (∀ b, sblk (.slice cq cm cm) = some b → ¬ Own p R8 b) := fun b hb => (hcf b hb).2
  clear hcs hcsl hcf hca hcst hb hf HCC hrch
  have hrch := HK2.out.2.1
  have hq := cells2_any w9 p R8 S8 A7 HA9.out 2 (by decide) (setOfL M) k2 (by have := HK240.out; omega) q1 HQ8.out (Nat.le_trans (cells_len hrch) (by have := HMN.out; have := HM2.out; omega)) (fun c hc => HOM.out c ((cells_list hrch c).1 hc))
  rw [cast_two] at hq
  have HCC := Lib.hid hq
  clear hq
  go_wp2_with fail
  (with_reducible refine HCC.out.mono ?_)
  rintro e w10 ⟨dq, dm, ds, rfl, hcs, hcsl, hcf, hca, hcst⟩
  have HDS : Hid (Tid M ds) := ⟨hcs.1, fun c => (hcs.2 c).trans (cells_list hrch c)⟩
  have HDL := Lib.hid hcsl
  have HA10 := Lib.hid hca
  have HCL2 := Lib.hid (HCL.out.mod hcst.mod fun b hb ho => by
    rcases ho with ho | ho
    · exact HCN.out b hb ho
    · exact ho)
  obtain ⟨hb, hf⟩ := hcst.low HB9.out.size HF9.out
  have HB10 := Lib.hid (HB9.out.trans hb)
  have HF10 := Lib.hid hf
  have HDN : Hid (∀ b, sblk (.slice dq dm dm) = some b → ¬ Own p R8 b) := fun b hb => (hcf b hb).2
  clear hcs hcsl hcf hca hcst hb hf HCC hrch
  go_wp2_with fail
  (with_reducible refine (tidy_ok w10 w2.heap.size m1 v1 L (HD1.out w10 HB10.out) HB10.out.size (by have := HM1.out; omega) HOL.out).mono ?_)
  rintro e w11 ⟨tq, tm, ts, rfl, hts, htsl, htf, hb11⟩
  obtain rfl : ts = cs := hts.unique HCS.out
  obtain rfl : tm = cm := by have e1 := htsl.1; have e2 := HCL2.out.1; rw [flat_length] at e1 e2; omega
  have HA11 := Lib.hid (HA10.out.below hb11)
  have HB11 := Lib.hid (HB10.out.trans (hb11.mono HB10.out.size))
  have HX11 := Lib.hid (HCL2.out.below hb11)
  have HZ11 := Lib.hid (HDL.out.below hb11)
  have HY11 := Lib.hid htsl
  have HYN : Hid (∀ b, sblk (.slice tq tm tm) = some b → ¬ Own p R8 b) := fun b hb ho => by have h1 := htf b hb; have h2 := HA10.out.arm.own_lt ho; omega
  clear hts htsl htf hb11 HCL HCL2 HDL
  go_wp2_with fail
  (with_reducible refine (tidy_ok w11 w2.heap.size m2 v2 M (HD2.out w11 HB11.out) HB11.out.size (by have := HM2.out; omega) HOM.out).mono ?_)
  rintro e w12 ⟨uq, um, us, rfl, hts, htsl, htf, hb12⟩
  obtain rfl : us = ds := hts.unique HDS.out
  obtain rfl : um = dm := by have e1 := htsl.1; have e2 := HZ11.out.1; rw [flat_length] at e1 e2; omega
  have HA12 := Lib.hid (HA11.out.below hb12)
  have HB12 := Lib.hid (HB11.out.trans (hb12.mono HB11.out.size))
  have HX12 := Lib.hid (HX11.out.below hb12)
  have HY12 := Lib.hid (HY11.out.below hb12)
  have HZ12 := Lib.hid (HZ11.out.below hb12)
  have HU12 := Lib.hid htsl
  have HUN : Hid (∀ b, sblk (.slice uq um um) = some b → ¬ Own p R8 b) := fun b hb ho => by have h1 := htf b hb; have h2 := HA11.out.arm.own_lt ho; omega
  clear hts htsl htf hb12 HX11 HY11 HZ11
  go_wp2_with fail
  have hq := count_any w12 p R8 S8 HA12.out.arm 1 (by decide)
  rw [cast_one] at hq
  (with_reducible refine hq.mono ?_)
  clear hq
  rintro e wq ⟨rfl, rfl⟩
  have HAX := Lib.hid (HA12.out.below ((Below.refl _ _).alloc (Nat.le_refl _) (.cells #[.int .i64 p1] IT)))
  have HSX := Lib.hid (sl_single w12 p1)
  have hq := clean_any _ p R8 S8 HAX.out.arm HAX.out.rel.inv 1 (by decide) _ 1 [p1] HSX.out (by decide) (fun x hx => by rw [List.mem_singleton.1 hx]; exact HPR.out)
  rw [cast_one] at hq
  have HCL := Lib.hid hq
  clear hq
  go_wp2_with fail
  (with_reducible refine HCL.out.mono ?_)
  rintro e w13 ⟨S13, R13, rfl, hcr, ha13, hs13⟩
  obtain ⟨c1, c2, c3, c4⟩ := clean_law HA12.out.rel (by decide) HP8.out HA12.out.add hcr
  have hsame : ∀ v, (cleanA A7 1 (rootT (setOfL L) k1) v).have_ = (A7 v).have_ := fun v => by rw [← HAE.out]; exact clean_twice A6 1 (rootT (setOfL L) k1) v
  have hcnt : S13.count 1 = S8.count 1 := by rw [c1.count (by decide), HA12.out.rel.count (by decide), hsame]
  have hst13 : StepH NoX p R8 R13 w12 w13 := (StepH.of_below ((Below.refl _ _).alloc (Nat.le_refl _) (.cells #[.int .i64 p1] IT))).trans (hs13.toH NoX)
  obtain ⟨hb, hf⟩ := hst13.low HB12.out.size (HF10.out)
  have HB13 := Lib.hid (HB12.out.trans hb)
  have HOW13 : Hid (∀ b, Own p R13 b → W.heap.size ≤ b) := fun b hb' => Nat.le_trans HB2.out.size (hf b hb')
  have HA13 : Hid (Ar w13 p R13 S13 (cleanA A7 1 (rootT (setOfL L) k1))) := ⟨ha13, c1, c4⟩
  have HALL13 : Hid (∀ (i : Nat) x, DenT S13 i x → ∃ u, u < 64 ∧ x ∈ (cleanA A7 1 (rootT (setOfL L) k1) u).have_) := fun i x hd => by
    obtain ⟨u, hu, hm⟩ := HALL.out i x (c2.denT.1 hd)
    exact ⟨u, hu, by rw [hsame]; exact hm⟩
  have hkeep : ∀ {v : Value} {k : Nat} {xs : List Value}, Sl w12 35 2 v k xs → (∀ b, sblk v = some b → ¬ Own p R8 b) → Sl w13 35 2 v k xs := fun hsl hno => hsl.mod hst13.mod fun b hb ho => by
    rcases ho with ho | ho
    · exact hno b hb ho
    · exact ho
  have HX13 := Lib.hid (hkeep HX12.out HCN.out)
  have HY13 := Lib.hid (hkeep HY12.out HYN.out)
  have HZ13 := Lib.hid (hkeep HZ12.out HDN.out)
  have HU13 := Lib.hid (hkeep HU12.out HUN.out)
  have HCNT := Lib.hid hcnt
  rw [hcnt, Int.sub_self]
  clear hcr ha13 hs13 c1 c2 c3 c4 hsame hcnt hst13 hb hf HCL HAX HSX
  clear hkeep
  go_wp2_with fail
  (with_reducible refine (same_true w13 w13.heap.size w13.heap.size tm _ _ ts HX13.out.rd HY13.out.rd).mono ?_)
  rintro e wz ⟨rfl, d, rfl⟩
  have HA14 := Lib.hid (show Ar (w13.drewN d) p R13 S13 _ from ⟨HA13.out.arm.drewN d, HA13.out.rel, HA13.out.add⟩)
  have HB14 : Hid (Below W.heap.size W (w13.drewN d)) := below_drewN (HB2.out.trans (HB13.out.mono HB2.out.size)) d
  have HZ14 : Hid (Sl (w13.drewN d) 35 2 (.slice dq um um) um (flat us)) := HZ13.out
  have HU14 : Hid (Sl (w13.drewN d) 35 2 (.slice uq um um) um (flat us)) := HU13.out
  generalize w13.drewN d = w14 at HA14 HB14 HZ14 HU14 ⊢
  go_wp2_with fail
  (with_reducible refine (same_true w14 w14.heap.size w14.heap.size um _ _ us HZ14.out.rd HU14.out.rd).mono ?_)
  rintro e wz ⟨rfl, d2, rfl⟩
  have HA15 := Lib.hid (show Ar (w14.drewN d2) p R13 S13 _ from ⟨HA14.out.arm.drewN d2, HA14.out.rel, HA14.out.add⟩)
  have HB15 : Hid (Below W.heap.size W (w14.drewN d2)) := below_drewN HB14.out d2
  have HW15 : Hid (∀ b, Own p R13 b → W.heap.size ≤ b) := HOW13.out
  generalize w14.drewN d2 = w15 at HA15 HB15 ⊢
  go_wp2_with fail
  have hq := count_any w15 p R13 S13 HA15.out.arm 1 (by decide)
  rw [cast_one] at hq
  (with_reducible refine hq.mono ?_)
  clear hq
  rintro e wq ⟨rfl, rfl⟩
  rw [HCNT.out]
  go_wp2_with fail
  (with_reducible refine (sweep_any w15 p R13 S13 HA15.out.arm HA15.out.rel.inv HA15.out.rel.live).mono ?_)
  rintro e w16 ⟨nz, S16, R16, rfl, hsw, ha16, hs16⟩
  obtain rfl : nz = 0 := sweep_zero HA15.out.rel HALL13.out hsw
  have HB16 : Hid (Below W.heap.size W w16) := HB15.out.trans ((hs16.toH NoX).low HB15.out.size HW15.out).1
  clear hsw ha16 hs16
  go_wp2_with fail
  go_ret
  exact ⟨rfl, HB16.out⟩
end Go.Proofs.Ytdbhddkkcchmmaa

namespace Go.Proofs.Ytdbhddkkcchmmaa
open Go.ChangeShapes Go.WideShapes Go.ChangeAt Go.RowKit

set_option maxRecDepth 100000 in
theorem arenaKeeps_lifted (os : Os) (started : os.Started) (H : Type) (enc : TypeId × Value → H) :
    ReturnsInHanded {} Try.checked os 6 .any (Rows.arenaKeepsSpec.pre6 enc Try.prog Try.f6 Rows.arenaKeepsRow.domain false) (Rows.arenaKeepsSpec.post enc Try.prog Try.f6 false true false false) := by
  refine returnsInHanded_of_change_sized (C := Try.checked) Try.ownC started (by kernel_rfl) Try.func6
    (ChangeSpec.witness6 (enc := enc) (C := Try.checked) false ⟨#[], #[.slice none 0 0, .slice none 0 0], []⟩ 8 (by kernel_rfl) (by kernel_rfl) (by kernel_rfl) (by kernel_rfl)) ?_
  intro W base args ds gs before hval0 hW hcnd hsz0 _
  have hval : ∀ (j : Nat) t v, Try.f6.params[j]? = some t → args[j]? = some v → Value.okWide Try.prog W .any base t v := hval0
  clear hsz0
  have hW' := hW
  obtain ⟨p, q, hA0, hV, rfl, hfz, hnd⟩ := hW
  have hA : DataW.TrodAll enc Try.prog W 0 (fun _ => true) true Try.f6.params.toList args.toList ds p := hA0
  rw [Try.params6] at hA hval
  obtain ⟨v0, v1, d0, d1, p0, p1, rfl, rfl, rfl, h0, h1⟩ := trodAll_two hA
  obtain ⟨rfl, rfl⟩ := trodVars_none hV
  obtain ⟨n0, l0, hR0, hin0, _⟩ := cells_of (hval 0 22 v0 rfl rfl) h0
  obtain ⟨n1, l1, hR1, hin1, _⟩ := cells_of (hval 1 22 v1 rfl rfl) h1
  refine (arenaKeeps_any W n0 v0 l0 n1 v1 l1 hR0 hin0 hR1 hin1).mono fun e W' ⟨he, hb⟩ => ?_
  subst he
  exact ⟨_, rfl, law_post Try.laidOutC (by rw [Try.params6]; intro t ht; simp at ht; rcases ht with rfl | rfl <;> exact ⟨by kernel_rfl, of_decide_eq_true (by kernel_rfl)⟩) rfl hW' hb (tb := 4) rfl Try.underlying4 rfl rfl rfl⟩

theorem arenaKeeps_holds : Rows.ArenaKeepsSaid :=
  OpenClaim.holds_of_wide 6 Try.f6 rfl rfl rfl rfl rfl rfl rfl ⟨rfl, rfl, rfl, rfl, rfl⟩ rfl rfl rfl rfl rfl (by kernel_rfl) Try.func6 (by kernel_rfl)
    (of_decide_eq_true (by kernel_rfl)) (by unfold Func.isWrapper; rw [if_neg (of_decide_eq_false (by kernel_rfl))]; exact ⟨rfl, rfl⟩)
    (fun os started H enc _ => arenaKeeps_lifted os started H enc)
#print axioms arenaKeeps_holds
end Go.Proofs.Ytdbhddkkcchmmaa
