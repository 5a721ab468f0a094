/- leap: Leap. · leap: how far cells come; canonical roots. · leap: Steps. · leap: which squares and notes a result asks for, in plain words. No program is named here. -/
import Derived.Test.YtgdijlpkbbfedaaZ10
import Derived.Test.YtgdijlpkbbfedaaZ14
import Derived.Test.YtgdijlpkbbfedaaZ8

namespace Go.Proofs.Ytgdijlpkbbfedaa
open Go.RowKit

/-- All that lives lies in the root of level k + 1. -/
def Supp (P : Int → Int → Bool) (k : Nat) : Prop := ∀ a b, P a b = true → -2 ^ k ≤ a ∧ a < 2 ^ k ∧ -2 ^ k ≤ b ∧ b < 2 ^ k
theorem Supp.up {P : Int → Int → Bool} {k m : Nat} (h : Supp P k) (hm : k ≤ m) : Supp P m := fun a b hp => by
  have := h a b hp
  have h2 : (2 : Int) ^ k ≤ 2 ^ m := by
    have := Nat.pow_le_pow_right (n := 2) (by decide) hm
    have e : ∀ n : Nat, ((2 ^ n : Nat) : Int) = (2 : Int) ^ n := fun n => by simp
    rw [← e, ← e]; omega
  omega
theorem Supp.clip {P : Int → Int → Bool} {k : Nat} (h : Supp P k) : clipP P k = P := by
  funext a b
  unfold clipP
  by_cases e : P a b = true
  · rw [e, decide_eq_true (h a b e)]; rfl
  · simp at e; rw [e]; rfl
/-- The root that a leap begins with. -/
def leapK (k j : Nat) : Nat := max (k + 2) (j + 2)
/-- What the wraps make. -/
def wrapsL (P : Int → Int → Bool) (k : Nat) : Nat → List Thing
  | 0 => []
  | n + 1 => wrapsL P k n ++ wrapL P (k + n)
/-- What a leap asks of an arena, but what peeling makes. -/
def LeapC (b l : Int) (P : Int → Int → Bool) (k j : Nat) (V : List Thing) : Prop := (∀ x ∈ wrapsL P k (leapK k j - k), x ∈ V) ∧ Clo b l (leapK k j - 1) (rootT P (leapK k j)) j V
def LeapPost (w : World) (p : Nat) (R : ArR) (S : ArS) (A : Nat → Abs) (t : Nat) (b l : Int) (P : Int → Int → Bool) (k j : Nat) (e : Ending) (w' : World) : Prop :=
  ∃ (κ : Nat) (L : List Thing) (r : Int) (S' : ArS) (A' : Nat → Abs) (R' : ArR) (bad' : Int), e = .returned (.tuple #[.int .i64 (if bad' = 0 then r else 0), .int .i64 bad']) ∧ L.length ≤ leapK k j ∧ Grew t (fun V => LeapC b l P k j V ∧ ∀ x ∈ L, x ∈ V) S A 0 S' A' bad' ∧
    (bad' = 0 → Has S' A' t r (rootT (evN b l (2 ^ j) P) κ) ∧ 1 ≤ κ ∧ κ ≤ leapK k j - 1 ∧ Fits (evN b l (2 ^ j) P) (leapK k j - 1) κ ∧ (κ = 1 ∨ ¬ Fits (evN b l (2 ^ j) P) κ (κ - 1))) ∧ Ar w' p R' S' A' ∧ StepH NoX p R R' w w'
theorem wrapsL_mono {P : Int → Int → Bool} {k : Nat} : ∀ {i m : Nat}, i ≤ m → ∀ x ∈ wrapsL P k i, x ∈ wrapsL P k m
  | i, 0, h, x, hx => by
    obtain rfl : i = 0 := by omega
    exact hx
  | i, m + 1, h, x, hx => by
    by_cases e : i = m + 1
    · subst e; exact hx
    · exact List.mem_append_left _ (wrapsL_mono (by omega) x hx)
/-- What the wraps' loop keeps. -/
structure LeapI (w : World) (p : Nat) (R : ArR) (S : ArS) (A : Nat → Abs) (t : Nat) (b l : Int) (P : Int → Int → Bool) (k i : Nat) (r : Int) (S' : ArS) (A' : Nat → Abs) (R' : ArR) (wx : World) : Prop where
  ar : Ar wx p R' S' A'
  has : Has S' A' t r (rootT P (k + i))
  gr : Grew t (fun V => ∀ x ∈ wrapsL P k i, x ∈ V) S A 0 S' A' 0
  st : StepH NoX p R R' w wx
  blk : Blk wx w.heap.size 23 #[.int .i64 b, .int .i64 l]
  no : ¬ Own p R' w.heap.size
section
variable {w wx w1 : World} {p : Nat} {R R' R2 : ArR} {S S' S2 : ArS} {A A' A2 : Nat → Abs} {t : Nat} {b l : Int} {P : Int → Int → Bool} {k i j : Nat} {r r2 bad2 : Int}
theorem LeapI.wrapG (_h : LeapI w p R S A t b l P k i r S' A' R' wx) (hm : Made t (wrapL P (k + i)) S' A' 0 S2 A2 bad2) (hg0 : Grew t (fun V => ∀ x ∈ wrapsL P k i, x ∈ V) S A 0 S' A' 0) : Grew t (fun V => ∀ x ∈ wrapsL P k (i + 1), x ∈ V) S A 0 S2 A2 bad2 :=
  (hg0.mono fun _ hV x hx => hV x (List.mem_append_left _ hx)).trans (hm.grew.mono fun _ hV x hx => hV x (List.mem_append_right _ hx))
theorem LeapI.next (h : LeapI w p R S A t b l P k i r S' A' R' wx) (hs : Supp P k) (hm : Made t (wrapL P (k + i)) S' A' 0 S2 A2 0) (hh : Has S2 A2 t r2 (rootT (clipP P (k + i)) (k + i + 1))) (ha : Ar w1 p R2 S2 A2) (hst : StepH NoX p R' R2 wx w1) : LeapI w p R S A t b l P k (i + 1) r2 S2 A2 R2 w1 := by
  rw [(hs.up (Nat.le_add_right k i)).clip] at hh
  exact ⟨ha, hh, h.wrapG hm h.gr, h.st.trans hst, hst.keepX h.blk h.no (fun h => h), hst.not h.blk.lt h.no⟩
theorem leap_bad (h : LeapI w p R S A t b l P k i r S' A' R' wx) (hi : k + i < leapK k j) (hm : Made t (wrapL P (k + i)) S' A' 0 S2 A2 bad2) (hb : bad2 ≠ 0) (ha : Ar w1 p R2 S2 A2) (hst : StepH NoX p R' R2 wx w1) : LeapPost w p R S A t b l P k j (.returned (.tuple #[.int .i64 0, .int .i64 bad2])) w1 :=
  ⟨1, [], 0, S2, A2, R2, bad2, by rw [if_neg hb], Nat.zero_le _, (h.wrapG hm h.gr).mono fun V hV x hx => hV.1.1 x (wrapsL_mono (by omega) x hx), fun e => absurd e hb, ha, h.st.trans hst⟩
end
/-- A leaper in an arena between calls. -/
theorem Ar.lp {w : World} {p : Nat} {R : ArR} {S : ArS} {A : Nat → Abs} (h : Ar w p R S A) {t : Nat} (ht : t < 64) (b l : Int) : Lp (w.alloc (.cells (lpC p t b l 0) 94)) w.heap.size p R S A t b l 0 :=
  ⟨h.arm.alloc _, Blk.new w _ _, fun ho => by have := h.arm.own_lt ho; omega, h.rel, h.add, ht⟩
theorem Lp.ar {w : World} {hb p : Nat} {R : ArR} {S : ArS} {A : Nat → Abs} {t : Nat} {b l bad : Int} (h : Lp w hb p R S A t b l bad) : Ar w p R S A := ⟨h.arm, h.rel, h.add⟩
theorem res_root (b l : Int) (P : Int → Int → Bool) (n j : Nat) (hj : j ≤ n) : resT b l n (rootT P (n + 1)) (j : Int) = rootT (evN b l (2 ^ j) P) n := by
  unfold rootT
  rw [resT_of b l n P _ _ j hj]
  have h : (2 : Int) ^ (n + 1) = 2 ^ n * 2 := Int.pow_succ 2 n
  congr 1 <;> omega
theorem stepH_new {w w1 w2 w3 : World} {p hb : Nat} {R R1 R2 : ArR} (h : StepH NoX p R R1 w w1) (hb2 : w.heap.size ≤ hb) (hs : StepH (fun b => b = hb) p R1 R2 w2 w3) (ha : StepH NoX p R1 R1 w1 w2) : StepH NoX p R R2 w w3 := by
  have := ((h.wide (Y := fun b => b = hb) (fun _ _ h => h.elim)).trans (ha.wide (Y := fun b => b = hb) (fun _ _ h => h.elim))).trans hs
  exact this.wide fun b hlt e => by omega
set_option maxRecDepth 100000 in
set_option maxHeartbeats 6400000 in
theorem leap_any (w : World) (p : Nat) (R : ArR) (S : ArS) (A : Nat → Abs) (h : Ar w p R S A) (t : Nat) (ht : t < 64) (b l : Int) (hg : goodR b l) (P : Int → Int → Bool) (k : Nat) (h1 : 1 ≤ k) (hk : k ≤ 41) (hs : Supp P k) (j : Nat) (hj : j ≤ 30) (root : Int) (hr : Has S A t root (rootT P k)) :
    Calls Try.prog 28 #[.pointer (some ⟨p, 0, none⟩), .int .i64 t, .agg #[.int .i64 b, .int .i64 l], .int .i64 root, .int .i64 j] w (LeapPost w p R S A t b l P k j) := by
  have HA := Lib.hid h
  have HGD := Lib.hid (fun w => good_true w b l hg)
  have HG := Lib.hid hg
  have HR := Lib.hid hr
  have HS := Lib.hid hs
  have hown : ownsB S t root 0 = true := by rw [h.rel.owns ht hr.1]; exact hr.2
  have hlev : levelOf S root = (k : Int) + 1 := by rw [hr.1.level h.rel.inv, rootT_lvl]
  have HLV0 := Lib.hid (fun W (hW : ArM W p R S) => level_any W p R S hW h.rel.inv.len t ht root)
  rw [hown] at HLV0
  have HLV : Hid (∀ W, ArM W p R S → Calls Try.prog 46 #[.pointer (some ⟨p, 0, none⟩), .int .i64 t, .int .i64 root] W fun e w' => e = .returned (.tuple #[.int .i64 ((k : Int) + 1), .int .i64 0]) ∧ W = w') := by rw [← hlev]; exact HLV0.out
  clear HLV0
  have hk0 : 1 ≤ (k : Int) := by omega
  have hk1 : (k : Int) ≤ 41 := by omega
  have hj0 : (j : Int) ≤ 30 := by omega
  clear h hg hr hs hown hlev
  go_enter Try.func28, Try.ntmps28
  go_wp2_with fail
  have hb1 : Below w.heap.size w (w.alloc (.cells #[.int .i64 b, .int .i64 l] 23)) := (Below.refl _ _).alloc (Nat.le_refl _) _
  have HB1 : Hid (Blk (w.alloc (.cells #[.int .i64 b, .int .i64 l] 23)) w.heap.size 23 #[.int .i64 b, .int .i64 l]) := Blk.new _ _ _
  have HA1 := Lib.hid (HA.out.below hb1)
  have HS1 : Hid (StepH NoX p R R w (w.alloc (.cells #[.int .i64 b, .int .i64 l] 23))) := StepH.of_below hb1 |>.wide fun _ _ h => h
  have HZ : Hid (¬ Own p R w.heap.size) := fun ho => Nat.lt_irrefl _ (HA.out.arm.own_lt ho)
  clear hb1
  generalize w.alloc (.cells #[.int .i64 b, .int .i64 l] 23) = w1 at *
  (with_reducible refine (HGD.out w1).mono ?_)
  rintro e w2 ⟨rfl, hb2⟩
  have HA2 := Lib.hid (HA1.out.below hb2)
  have HB2 := Lib.hid (HB1.out.mod (Mod.of_below_all hb2) id)
  have HS2 : Hid (StepH NoX p R R w w2) := HS1.out.trans (StepH.of_below hb2)
  clear hb2 HA1 HB1 HS1
  go_wp2_with fail
  (with_reducible refine (HLV.out _ HA2.out.arm).mono ?_)
  rintro e wq ⟨rfl, rfl⟩
  have hmax : max ((k : Int) + 1 + 2) ((j : Int) + 3) = ((leapK k j : Nat) : Int) + 1 := by unfold leapK; omega
  have HKB : Hid (k + 2 ≤ leapK k j ∧ j + 2 ≤ leapK k j ∧ leapK k j ≤ 43) := by show _ ∧ _ ∧ _; unfold leapK; omega
  have H0 : Hid (LeapI w p R S A t b l P k 0 root S A R w2) := ⟨HA2.out, HR.out, Grew.refl HA2.out.rel t _ 0, HS2.out, HB2.out, HZ.out⟩
  generalize hKK : leapK k j = K at *
  have HKK := Lib.hid hKK
  clear hKK
  go_wp2_with fail
  clear hmax
  go_loopw [12, 3, 13] (fun lv rt ev wx => ∃ (i : Nat) (r : Int) (S' : ArS) (A' : Nat → Abs) (R' : ArR), lv = .int .i64 (((k + i : Nat) : Int) + 1) ∧ k + i ≤ K ∧ rt = .int .i64 r ∧ ev = .int .i64 0 ∧ LeapI w p R S A t b l P k i r S' A' R' wx) (fun lv _ _ _ => K + 1 - (intOf lv).toNat)
  case atStart => exact ⟨0, root, S, A, R, rfl, by have := HKB.out; omega, rfl, rfl, H0.out⟩
  case round =>
    obtain ⟨i, r, S', A', R', rfl, hi, rfl, rfl, hI⟩ := hrel
    have HI := Lib.hid hI
    clear hI H0
    by_cases hlt : k + i < K
    · have HLT := Lib.hid hlt
      have HWR := Lib.hid (wrap_any wr p R' S' A' HI.out.ar t ht P (k + i) (by have := HKB.out; omega) r HI.out.has)
      have hci : ((k + i : Nat) : Int) + 1 < (K : Int) + 1 := by omega
      have hci2 : ((k + i : Nat) : Int) ≤ 43 := by have := HKB.out; omega
      clear hlt hi
      generalize hki : k + i = m at *
      have HKI := Lib.hid hki
      clear hki
      go_wp2_with fail
      (with_reducible refine HWR.out.mono ?_)
      rintro e w5 ⟨r2, S2, A2, R2, bad2, rfl, hm, hh, ha, hs5⟩
      by_cases hb : bad2 = 0
      · subst hb
        have HN := Lib.hid (HI.out.next HS.out (by rw [HKI.out]; exact hm) (by rw [HKI.out]; exact hh rfl) ha hs5)
        clear hm hh ha hs5 HWR
        rw [if_pos rfl]
        go_wp2_with fail
        go_roundw
        case rel => exact ⟨i + 1, r2, S2, A2, R2, congrArg (Value.int .i64) (by have e : k + i = m := HKI.out; omega), by have e : k + i = m := HKI.out; have e2 : m < K := HLT.out; omega, rfl, rfl, HN.out⟩
        case measure => simp [intOf]; omega
      · have hb8 : (bad2 == 0) = false := beq_eq_false_iff_ne.2 hb
        have HBD : Hid (LeapPost w p R S A t b l P k j (.returned (.tuple #[.int .i64 0, .int .i64 bad2])) w5) := leap_bad HI.out (by rw [HKI.out, HKK.out]; exact HLT.out) (by rw [HKI.out]; exact hm) hb ha hs5
        rw [if_neg hb]
        clear hm hh ha hs5 HWR hb
        go_wp2_with fail
        go_returns
        exact HBD.out
    · have hkiK : k + i = K := by omega
      obtain ⟨n, rfl⟩ : ∃ n, K = n + 1 := ⟨K - 1, by have := HKB.out; omega⟩
      have hn1 : 1 ≤ n := by have := HKB.out; omega
      have hn2 : n ≤ 42 := by have := HKB.out; omega
      have hjn : j ≤ n := by have := HKB.out; omega
      have HHR : Hid (Has S' A' t r (rootT P (n + 1))) := by have := HI.out.has; rw [hkiK] at this; exact this
      have c0 := HI.out.blk.cellS (i := 0) rfl
      have c1 := HI.out.blk.cellS (i := 1) rfl
      have HL6 := Lib.hid (HI.out.ar.lp ht b l)
      have HRS := Lib.hid (result_any b l HG.out n (by omega) _ wr.heap.size p R' S' A' t 0 HL6.out r (rootT P (n + 1)) (j : Int) (treeOf_pf _ _ _ _) (fun _ => HHR.out) (by omega) (by omega))
      rw [res_root b l P n j hjn] at HRS
      have HI2 : Hid (i = leapK k j - k ∧ leapK k j = n + 1) := by
        have e : leapK k j = n + 1 := HKK.out
        show i = leapK k j - k ∧ leapK k j = n + 1
        rw [e]
        exact ⟨by omega, rfl⟩
      have HN := Lib.hid (And.intro hn1 (And.intro hn2 hjn))
      rw [hkiK, show ((n + 1 : Nat) : Int) + 1 = (n : Int) + 2 by omega]
      clear hkiK hlt hi hn1 hn2 hjn
      unfold lpC at HRS
      go_wp2_with fail
      (with_reducible refine HRS.out.mono ?_)
      intro e w7 hq
      unfold LpPost at hq
      obtain ⟨r7, S7, A7, R7, bad7, rfl, hg7, hh7, hp7, hs7⟩ := hq
      have hlo : w.heap.size ≤ wr.heap.size := HI.out.st.mod.size
      have HST := Lib.hid (stepH_new HI.out.st hlo hs7 ((StepH.refl NoX p R' wr).alloc _))
      have HGW : Hid (Grew t (LeapC b l P k j) S A 0 S7 A7 bad7) := by
        refine (HI.out.gr.mono fun V hV => ?_).trans (hg7.mono fun V hV => ?_)
        · rw [HI2.out.1]; exact hV.1
        · have := hV.2
          rw [HI2.out.2] at this
          exact this
      have HH7 := Lib.hid hh7
      have HP7 := Lib.hid hp7
      have c4 := hp7.c4
      clear hg7 hh7 hp7 hs7 HRS HL6 hlo c0 c1
      by_cases hb : bad7 = 0
      · subst hb
        have HPL := Lib.hid (peel_any w7 p R7 S7 A7 HP7.out.ar t ht (evN b l (2 ^ j) P) n HN.out.1 (by have := HN.out; omega) r7 (HH7.out rfl))
        go_wp2_with fail
        (with_reducible refine HPL.out.mono ?_)
        intro e w8 hq
        unfold PeelPost at hq
        obtain ⟨κ, L, r8, S8, A8, R8, bad8, rfl, k1, k2, k3, hm8, hh8, ha8, hs8⟩ := hq
        have HFIN : Hid (LeapPost w p R S A t b l P k j (.returned (.tuple #[.int .i64 (if bad8 = 0 then r8 else 0), .int .i64 bad8])) w8) :=
          ⟨κ, L, r8, S8, A8, R8, bad8, rfl, by have e : leapK k j = n + 1 := HKK.out; rw [e]; omega, (HGW.out.mono fun V hV => hV.1).trans (hm8.grew.mono fun V hV => hV.2), fun e => ⟨(hh8 e).1, k1, by have e2 : leapK k j = n + 1 := HKK.out; rw [e2]; exact k2, by have e2 : leapK k j = n + 1 := HKK.out; rw [e2]; exact (hh8 e).2.1, (hh8 e).2.2⟩, ha8, HST.out.trans hs8⟩
        clear hm8 hh8 ha8 hs8 HPL
        generalize (if bad8 = 0 then r8 else 0) = rr at HFIN ⊢
        go_wp2_with fail
        go_returns
        exact HFIN.out
      · have hb8 : (bad7 == 0) = false := beq_eq_false_iff_ne.2 hb
        have HB := Lib.hid hb
        have hb9 : (bad7 != 0) = true := by simp [hb]
        clear hb
        go_wp2_with fail
        go_region_law (fail)
        all_goals (
          go_wp2_with fail
          go_simp
          go_returns
          exact ⟨1, [], 0, S7, A7, R7, bad7, by simp, Nat.zero_le _, HGW.out.mono fun V hV => hV.1, fun e => absurd e HB.out, HP7.out.drew.ar, HST.out.drew⟩)
end Go.Proofs.Ytgdijlpkbbfedaa

namespace Go.Proofs.Ytgdijlpkbbfedaa
open Go.RowKit

/-- All that lives lies between two bounds. -/
def Span (P : Int → Int → Bool) (lo hi : Int) : Prop := ∀ a c, P a c = true → lo ≤ a ∧ a < hi ∧ lo ≤ c ∧ c < hi
theorem supp_span {P : Int → Int → Bool} {k : Nat} : Supp P k ↔ Span P (-2 ^ k) (2 ^ k) := Iff.rfl
theorem Span.wide {P : Int → Int → Bool} {lo hi lo' hi' : Int} (h : Span P lo hi) (h1 : lo' ≤ lo) (h2 : hi ≤ hi') : Span P lo' hi' := fun a c hp => by
  have := h a c hp; omega
theorem Span.ev {b l : Int} (hg : goodR b l) {P : Int → Int → Bool} {lo hi : Int} (h : Span P lo hi) : Span (ev b l P) (lo - 1) (hi + 1) := fun a c hp => by
  by_cases h0 : P a c = true
  · have := h a c h0; omega
  · have key : ∀ a' c', P a' c' = true → a' - 1 ≤ a → a ≤ a' + 1 → c' - 1 ≤ c → c ≤ c' + 1 → lo - 1 ≤ a ∧ a < hi + 1 ∧ lo - 1 ≤ c ∧ c < hi + 1 := fun a' c' q h1 h2 h3 h4 => by
      have := h a' c' q; omega
    have zero : ∀ a' c', P a' c' ≠ true → oneP P a' c' = 0 := fun a' c' q => by unfold oneP; rw [if_neg q]
    by_cases q1 : P (a - 1) (c - 1) = true
    · exact key _ _ q1 (by omega) (by omega) (by omega) (by omega)
    by_cases q2 : P a (c - 1) = true
    · exact key _ _ q2 (by omega) (by omega) (by omega) (by omega)
    by_cases q3 : P (a + 1) (c - 1) = true
    · exact key _ _ q3 (by omega) (by omega) (by omega) (by omega)
    by_cases q4 : P (a - 1) c = true
    · exact key _ _ q4 (by omega) (by omega) (by omega) (by omega)
    by_cases q5 : P (a + 1) c = true
    · exact key _ _ q5 (by omega) (by omega) (by omega) (by omega)
    by_cases q6 : P (a - 1) (c + 1) = true
    · exact key _ _ q6 (by omega) (by omega) (by omega) (by omega)
    by_cases q7 : P a (c + 1) = true
    · exact key _ _ q7 (by omega) (by omega) (by omega) (by omega)
    by_cases q8 : P (a + 1) (c + 1) = true
    · exact key _ _ q8 (by omega) (by omega) (by omega) (by omega)
    · exfalso
      unfold Go.Proofs.Ytgdijlpkbbfedaa.ev nearP at hp
      rw [if_neg h0, zero _ _ q1, zero _ _ q2, zero _ _ q3, zero _ _ q4, zero _ _ q5, zero _ _ q6, zero _ _ q7, zero _ _ q8] at hp
      have hb := hg.2.2
      unfold bitB at hp
      simp at hp
      omega
theorem Span.evN {b l : Int} (hg : goodR b l) {P : Int → Int → Bool} {lo hi : Int} (h : Span P lo hi) : ∀ m : Nat, Span (evN b l m P) (lo - m) (hi + m)
  | 0 => by
    show Span P _ _
    exact h.wide (by omega) (by omega)
  | m + 1 => by
    have := (Span.evN hg h m).ev hg
    exact this.wide (by omega) (by omega)
theorem pow_mono2 {m n : Nat} (h : m ≤ n) : (2 : Int) ^ m ≤ 2 ^ n := by
  have := Nat.pow_le_pow_right (n := 2) (by decide) h
  have e : ∀ n : Nat, ((2 ^ n : Nat) : Int) = (2 : Int) ^ n := fun n => by simp
  rw [← e, ← e]; omega
/-- Behind a leap all lies in its result. -/
theorem supp_leap {b l : Int} (hg : goodR b l) {P : Int → Int → Bool} {k j : Nat} (h : Supp P k) : Supp (evN b l (2 ^ j) P) (leapK k j - 1) := by
  have h1 := Span.evN hg (supp_span.1 h) (2 ^ j)
  have e : (((2 : Nat) ^ j : Nat) : Int) = (2 : Int) ^ j := by simp
  rw [e] at h1
  refine supp_span.2 (h1.wide ?_ ?_)
  all_goals
    have h2 := pow_mono2 (m := k + 1) (n := leapK k j - 1) (by unfold leapK; omega)
    have h3 := pow_mono2 (m := j + 1) (n := leapK k j - 1) (by unfold leapK; omega)
    rw [Int.pow_succ] at h2 h3
    omega
/-- The root is as small as it can be. -/
def Can (P : Int → Int → Bool) (k : Nat) : Prop := 1 ≤ k ∧ Supp P k ∧ (k = 1 ∨ ¬ Fits P k (k - 1))
theorem Can.le {P : Int → Int → Bool} {k m : Nat} (h : Can P k) (hm : 1 ≤ m) (hs : Supp P m) : k ≤ m := by
  obtain ⟨h1, h2, h3⟩ := h
  rcases h3 with h3 | h3
  · omega
  · refine Nat.le_of_not_lt fun hlt => h3 fun a c _ hp => ?_
    rw [inB_root]
    exact hs.up (by omega) a c hp
theorem Can.uniq {P : Int → Int → Bool} {k m : Nat} (h : Can P k) (h' : Can P m) : k = m := Nat.le_antisymm (h.le h'.1 h'.2.1) (h'.le h.1 h.2.1)
/-- What a peeled root is. -/
theorem can_of {P : Int → Int → Bool} {k κ : Nat} (hs : Supp P k) (h1 : 1 ≤ κ) (hf : Fits P k κ) (hc : κ = 1 ∨ ¬ Fits P κ (κ - 1)) : Can P κ :=
  ⟨h1, fun a c hp => inB_root.1 (hf a c (inB_root.2 (hs a c hp)) hp), hc⟩
end Go.Proofs.Ytgdijlpkbbfedaa

namespace Go.Proofs.Ytgdijlpkbbfedaa
open Go.RowKit

/-- What the leaps of n steps ask of an arena, up to a bit. -/
def StepsC (b l : Int) (P : Int → Int → Bool) (n j : Nat) (V : List Thing) : Prop := ∀ i, i < j → n / 2 ^ i % 2 = 1 → ∀ k, Can (evN b l (n % 2 ^ i) P) k → LeapC b l (evN b l (n % 2 ^ i) P) k i V
theorem StepsC.le {b l : Int} {P : Int → Int → Bool} {n i j : Nat} {V : List Thing} (h : StepsC b l P n j V) (hi : i ≤ j) : StepsC b l P n i V := fun m hm => h m (by omega)
structure StepsI (w : World) (p : Nat) (R : ArR) (S : ArS) (A : Nat → Abs) (t : Nat) (b l : Int) (P : Int → Int → Bool) (n j κ : Nat) (L : List Thing) (r : Int) (S' : ArS) (A' : Nat → Abs) (R' : ArR) (bad' : Int) (wx : World) : Prop where
  ar : Ar wx p R' S' A'
  len : L.length ≤ 44 * (j + 1)
  gr : Grew t (fun V => StepsC b l P n j V ∧ ∀ x ∈ L, x ∈ V) S A 0 S' A' bad'
  has : bad' = 0 → Has S' A' t r (rootT (evN b l (n % 2 ^ j) P) κ) ∧ Can (evN b l (n % 2 ^ j) P) κ
  st : StepH NoX p R R' w wx
  blk : Blk wx w.heap.size 23 #[.int .i64 b, .int .i64 l]
  no : ¬ Own p R' w.heap.size
def StepsPost (w : World) (p : Nat) (R : ArR) (S : ArS) (A : Nat → Abs) (t : Nat) (b l : Int) (P : Int → Int → Bool) (n : Nat) (e : Ending) (w' : World) : Prop :=
  ∃ (κ : Nat) (L : List Thing) (r : Int) (S' : ArS) (A' : Nat → Abs) (R' : ArR) (bad' : Int), e = .returned (.tuple #[.int .i64 (if bad' = 0 then r else 0), .int .i64 bad']) ∧ L.length ≤ 44 * 40 ∧ Grew t (fun V => StepsC b l P n 40 V ∧ ∀ x ∈ L, x ∈ V) S A 0 S' A' bad' ∧
    (bad' = 0 → Has S' A' t r (rootT (evN b l n P) κ) ∧ Can (evN b l n P) κ) ∧ Ar w' p R' S' A' ∧ StepH NoX p R R' w w'
section
variable {w wx w1 : World} {p : Nat} {R R' R2 : ArR} {S S' S2 : ArS} {A A' A2 : Nat → Abs} {t : Nat} {b l : Int} {P : Int → Int → Bool} {n j κ k2 : Nat} {L L2 : List Thing} {r r2 bad' bad2 : Int}
theorem StepsI.skip (h : StepsI w p R S A t b l P n j κ L r S' A' R' bad' wx) (hb : ¬ n / 2 ^ j % 2 = 1) : StepsI w p R S A t b l P n (j + 1) κ L r S' A' R' bad' wx := by
  have e : n % 2 ^ (j + 1) = n % 2 ^ j := by
    rw [Nat.mod_pow_succ]
    have : n / 2 ^ j % 2 = 0 := by omega
    rw [this]; simp
  have hl := h.len
  exact ⟨h.ar, by omega, h.gr.mono fun V hV => ⟨hV.1.le (Nat.le_succ j), hV.2⟩, by rw [e]; exact h.has, h.st, h.blk, h.no⟩
theorem StepsI.leap (h : StepsI w p R S A t b l P n j κ L r S' A' R' 0 wx) (hg : goodR b l) (hb : n / 2 ^ j % 2 = 1) {e : Ending} (hj : j ≤ 30) (hk : κ ≤ 41) (hp : LeapPost wx p R' S' A' t b l (evN b l (n % 2 ^ j) P) κ j e w1) :
    ∃ k2 L2 r2 S2 A2 R2 bad2, e = .returned (.tuple #[.int .i64 (if bad2 = 0 then r2 else 0), .int .i64 bad2]) ∧ StepsI w p R S A t b l P n (j + 1) k2 (L ++ L2) r2 S2 A2 R2 bad2 w1 := by
  obtain ⟨k2, L2, r2, S2, A2, R2, bad2, rfl, hl, hgr, hh, ha, hst⟩ := hp
  have em : n % 2 ^ (j + 1) = n % 2 ^ j + 2 ^ j := by rw [Nat.mod_pow_succ, hb]; simp
  have ee : evN b l (2 ^ j) (evN b l (n % 2 ^ j) P) = evN b l (n % 2 ^ (j + 1)) P := by rw [evN_add, em]
  obtain ⟨_, hc⟩ := h.has rfl
  have hl1 := h.len
  have hK : leapK κ j ≤ 43 := by unfold leapK; omega
  refine ⟨k2, L2, r2, S2, A2, R2, bad2, rfl, ha, by rw [List.length_append]; omega, ?_, fun e0 => ?_, h.st.trans hst, hst.keepX h.blk h.no (fun h => h), hst.not h.blk.lt h.no⟩
  · refine (h.gr.mono fun V hV => ⟨hV.1.le (Nat.le_succ j), fun x hx => hV.2 x (List.mem_append_left _ hx)⟩).trans (hgr.mono fun V hV => ⟨hV.1 j (Nat.lt_succ_self j) hb κ hc, fun x hx => hV.2 x (List.mem_append_right _ hx)⟩)
  · obtain ⟨g1, g2, g3, g4, g5⟩ := hh e0
    rw [ee] at g1 g4 g5
    refine ⟨g1, can_of (k := leapK κ j - 1) ?_ g2 g4 g5⟩
    rw [← ee]
    exact supp_leap hg hc.2.1
end
set_option maxRecDepth 100000 in
set_option maxHeartbeats 6400000 in
theorem steps_any (w : World) (p : Nat) (R : ArR) (S : ArS) (A : Nat → Abs) (h : Ar w p R S A) (t : Nat) (ht : t < 64) (b l : Int) (hg : goodR b l) (P : Int → Int → Bool) (k : Nat) (h1 : 1 ≤ k) (hk : k ≤ 41) (hs : Supp P k) (n : Nat) (hn : n ≤ 1073741824) (M : Nat) (hM : M ≤ 41) (hM1 : 1 ≤ M) (hsp : ∀ m, m ≤ n → Supp (evN b l m P) M) (root : Int) (hr : Has S A t root (rootT P k)) :
    Calls Try.prog 13 #[.pointer (some ⟨p, 0, none⟩), .int .i64 t, .agg #[.int .i64 b, .int .i64 l], .int .i64 root, .int .i64 n] w (StepsPost w p R S A t b l P n) := by
  have HA := Lib.hid h
  have HGD := Lib.hid (fun w => good_true w b l hg)
  have HG := Lib.hid hg
  have HR := Lib.hid hr
  have HS := Lib.hid hs
  have HSP := Lib.hid hsp
  have HKK := Lib.hid (And.intro h1 (And.intro hk (And.intro hM hM1)))
  have hn0 : (n : Int) ≤ 1073741824 := by omega
  clear h hg hr hs hsp h1 hk hM hM1 hn
  go_enter Try.func13, Try.ntmps13
  go_wp2_with fail
  have hb1 : Below w.heap.size w (w.alloc (.cells #[.int .i64 b, .int .i64 l] 23)) := (Below.refl _ _).alloc (Nat.le_refl _) _
  have HB1 : Hid (Blk (w.alloc (.cells #[.int .i64 b, .int .i64 l] 23)) w.heap.size 23 #[.int .i64 b, .int .i64 l]) := Blk.new _ _ _
  have HA1 := Lib.hid (HA.out.below hb1)
  have HS1 : Hid (StepH NoX p R R w (w.alloc (.cells #[.int .i64 b, .int .i64 l] 23))) := StepH.of_below hb1 |>.wide fun _ _ h => h
  have HZ : Hid (¬ Own p R w.heap.size) := fun ho => Nat.lt_irrefl _ (HA.out.arm.own_lt ho)
  clear hb1
  generalize w.alloc (.cells #[.int .i64 b, .int .i64 l] 23) = w1 at *
  (with_reducible refine (HGD.out w1).mono ?_)
  rintro e w2 ⟨rfl, hb2⟩
  have HA2 := Lib.hid (HA1.out.below hb2)
  have HB2 := Lib.hid (HB1.out.mod (Mod.of_below_all hb2) id)
  have HS2 : Hid (StepH NoX p R R w w2) := HS1.out.trans (StepH.of_below hb2)
  clear hb2 HA1 HB1 HS1
  have HPL := Lib.hid (peel_any w2 p R S A HA2.out t ht P k HKK.out.1 (by have := HKK.out; omega) root HR.out)
  go_wp2_with fail
  (with_reducible refine HPL.out.mono ?_)
  intro e w3 hq
  unfold PeelPost at hq
  obtain ⟨κ, L, r3, S3, A3, R3, bad3, rfl, k1, k2, k3, hm3, hh3, ha3, hs3⟩ := hq
  have H0 : Hid (StepsI w p R S A t b l P n 0 κ L r3 S3 A3 R3 bad3 w3) := by
    have e : n % 2 ^ 0 = 0 := by simp [Nat.mod_one]
    refine ⟨ha3, by have := HKK.out; omega, hm3.grew.mono fun V hV => hV.2, fun e0 => ?_, HS2.out.trans hs3, hs3.keepX HB2.out HZ.out (fun h => h), hs3.not HB2.out.lt HZ.out⟩
    rw [e]
    exact ⟨(hh3 e0).1, can_of HS.out k1 (hh3 e0).2.1 (hh3 e0).2.2⟩
  clear hm3 hh3 ha3 hs3 HPL k1 k2 k3
  obtain ⟨rr, hrr⟩ : ∃ rr, (if bad3 = 0 then r3 else 0) = rr := ⟨_, rfl⟩
  rw [hrr]
  have HRR := Lib.hid hrr
  clear hrr
  go_wp2_with fail
  go_loopw [13, 3, 12] (fun jv rt ev wx => ∃ (j κ : Nat) (L : List Thing) (r rr : Int) (S' : ArS) (A' : Nat → Abs) (R' : ArR) (bad' : Int), jv = .int .i64 j ∧ j ≤ 31 ∧ rt = .int .i64 rr ∧ (if bad' = 0 then r else 0) = rr ∧ ev = .int .i64 bad' ∧ StepsI w p R S A t b l P n j κ L r S' A' R' bad' wx) (fun jv _ _ _ => 32 - (intOf jv).toNat)
  case atStart => exact ⟨0, κ, L, r3, rr, S3, A3, R3, bad3, rfl, by decide, rfl, HRR.out, rfl, H0.out⟩
  case round =>
    clear H0 HRR
    obtain ⟨j, κ, L, r, rr, S', A', R', bad', rfl, hj, rfl, hrr, rfl, hI⟩ := hrel
    have HI := Lib.hid hI
    have HRR := Lib.hid hrr
    clear hI hrr
    have hj0 : (j : Int) ≤ 31 := by omega
    by_cases hb : bad' = 0
    · subst hb
      by_cases hpos : 0 < n / 2 ^ j
      · have hpi : 0 < (n : Int) / 2 ^ j := by
          have e : ((n / 2 ^ j : Nat) : Int) = (n : Int) / 2 ^ j := by simp
          rw [← e]; omega
        have hple : (n : Int) / 2 ^ j ≤ 1073741824 := by
          have e : ((n / 2 ^ j : Nat) : Int) = (n : Int) / 2 ^ j := by simp
          have := Nat.div_le_self n (2 ^ j)
          rw [← e]; omega
        have hand := i64_and1 ((n : Int) / 2 ^ j) (by omega) (by omega)
        by_cases hbit : n / 2 ^ j % 2 = 1
        · have hbi : (n : Int) / 2 ^ j % 2 = 1 := by
            have e : ((n / 2 ^ j : Nat) : Int) = (n : Int) / 2 ^ j := by simp
            rw [← e]; omega
          have hle : 2 ^ j ≤ n := (Nat.div_pos_iff.1 hpos).2
          have HJ30 : Hid (j ≤ 30) := by
            show j ≤ 30
            refine Nat.le_of_not_lt fun hlt => ?_
            have h1 := Nat.pow_le_pow_right (n := 2) (by decide) (show 31 ≤ j from hlt)
            have h2 : 2 ^ 31 = 2147483648 := by decide
            have h3 : n ≤ 1073741824 := by omega
            omega
          have HCN := Lib.hid (HI.out.has rfl)
          have HK41 : Hid (κ ≤ 41) := Nat.le_trans (HCN.out.2.le HKK.out.2.2.2 (HSP.out (n % 2 ^ j) (Nat.mod_le _ _))) HKK.out.2.2.1
          have HLP := Lib.hid (leap_any wr p R' S' A' HI.out.ar t ht b l HG.out (evN b l (n % 2 ^ j) P) κ HCN.out.2.1 HK41.out HCN.out.2.2.1 j HJ30.out r HCN.out.1)
          have HBIT := Lib.hid hbit
          have hrr : r = rr := HRR.out
          subst hrr
          have c0 := HI.out.blk.cellS (i := 0) rfl
          have c1 := HI.out.blk.cellS (i := 1) rfl
          clear hle hpos hbit hj
          go_wp2_with fail
          (with_reducible refine HLP.out.mono ?_)
          intro e w5 hq
          obtain ⟨k2, L2, r2, S2, A2, R2, bad2, rfl, hI2⟩ := HI.out.leap HG.out HBIT.out HJ30.out HK41.out hq
          obtain ⟨rr2, hrr2⟩ : ∃ rr2, (if bad2 = 0 then r2 else 0) = rr2 := ⟨_, rfl⟩
          rw [hrr2]
          have HI5 := Lib.hid hI2
          have HRR2 := Lib.hid hrr2
          clear hq hI2 hrr2 c0 c1
          go_wp2_with fail
          go_roundw
          case rel => exact ⟨j + 1, k2, L ++ L2, r2, rr2, S2, A2, R2, bad2, by go_num, by have := HJ30.out; omega, rfl, HRR2.out, rfl, HI5.out⟩
          case measure => simp [intOf]; have := HJ30.out; omega
        · have hbi : (n : Int) / 2 ^ j % 2 = 0 := by
            have e : ((n / 2 ^ j : Nat) : Int) = (n : Int) / 2 ^ j := by simp
            rw [← e]; omega
          have HSK := Lib.hid (HI.out.skip hbit)
          have hle : 2 ^ j ≤ n := (Nat.div_pos_iff.1 hpos).2
          have HJ30 : Hid (j ≤ 30) := by
            show j ≤ 30
            refine Nat.le_of_not_lt fun hlt => ?_
            have h1 := Nat.pow_le_pow_right (n := 2) (by decide) (show 31 ≤ j from hlt)
            have h2 : 2 ^ 31 = 2147483648 := by decide
            have h3 : n ≤ 1073741824 := by omega
            omega
          clear hle hpos hbit hj
          go_wp2_with fail
          go_roundw
          case rel => exact ⟨j + 1, κ, L, r, rr, S', A', R', 0, by go_num, by have := HJ30.out; omega, rfl, HRR.out, rfl, HSK.out⟩
          case measure => simp [intOf]; have := HJ30.out; omega
      · have hz : (n : Int) / 2 ^ j = 0 := by
          have e : ((n / 2 ^ j : Nat) : Int) = (n : Int) / 2 ^ j := by simp
          have h0 : n / 2 ^ j = 0 := Nat.eq_zero_of_not_pos hpos
          rw [← e, h0]; rfl
        have HEX : Hid (StepsPost w p R S A t b l P n (.returned (.tuple #[.int .i64 rr, .int .i64 0])) wr) := by
          have hlt : n < 2 ^ j := by
            refine Nat.lt_of_not_le fun h => hpos (Nat.div_pos h (Nat.two_pow_pos j))
          have hr : r = rr := HRR.out
          have hl := HI.out.len
          have hh := HI.out.has
          rw [Nat.mod_eq_of_lt hlt] at hh
          exact ⟨κ, L, r, S', A', R', 0, by rw [if_pos rfl, hr], by omega, HI.out.gr.mono fun V hV => ⟨hV.1.le (by omega), hV.2⟩, hh, HI.out.ar, HI.out.st⟩
        clear hpos hj
        go_wp2_with fail
        go_returns
        exact HEX.out
    · have hb8 : (bad' == 0) = false := beq_eq_false_iff_ne.2 hb
      have HB := Lib.hid hb
      clear hb
      have HEX : Hid (StepsPost w p R S A t b l P n (.returned (.tuple #[.int .i64 0, .int .i64 bad'])) wr) := by
        have hl := HI.out.len
        exact ⟨κ, L, r, S', A', R', bad', by rw [if_neg HB.out], by omega, HI.out.gr.mono fun V hV => ⟨hV.1.le (by omega), hV.2⟩, fun e => absurd e HB.out, HI.out.ar, HI.out.st⟩
      have hb9 : (bad' != 0) = true := by simp [HB.out]
      clear hj
      go_wp2_with fail
      all_goals (
        go_returns
        exact HEX.out)
end Go.Proofs.Ytgdijlpkbbfedaa

namespace Go.Proofs.Ytgdijlpkbbfedaa
open Go.RowKit

theorem clo_mono {b l : Int} {V W : List Thing} : ∀ {n : Nat} {T : Tree} {j : Int}, Clo b l n T j V → (∀ x ∈ V, x ∈ W) → Clo b l n T j W
  | 0, _, _, h, hv => ⟨hv _ h.1, hv _ h.2⟩
  | _ + 1, _, _, h, hv => ⟨hv _ h.1, fun y x hy hx => ⟨hv _ (h.2.1 y x hy hx).1, fun e => clo_mono ((h.2.1 y x hy hx).2.1 e) hv, fun e => hv _ ((h.2.1 y x hy hx).2.2 e)⟩, fun y x hy hx => ⟨hv _ (h.2.2.1 y x hy hx).1, clo_mono (h.2.2.1 y x hy hx).2 hv⟩, hv _ h.2.2.2⟩
/-- All squares and notes that a leap of 2^j steps from P may make, up to a level. -/
structure Wins (b l : Int) (P : Int → Int → Bool) (j M : Nat) (V : List Thing) : Prop where
  one : ∀ Q x y, sqOf (treeOf Q 1 x y) ∈ V
  full : ∀ (m i : Nat) (x y : Int), m + 1 ≤ j → i * 2 ^ m ≤ 2 ^ j → (2 : Int) ^ (m + 1) ∣ x - i * 2 ^ m → (2 : Int) ^ (m + 1) ∣ y - i * 2 ^ m → sqOf (treeOf (evN b l (i * 2 ^ m) P) (m + 2) x y) ∈ V ∧ ((i + 1) * 2 ^ m ≤ 2 ^ j → Thing.note (treeOf (evN b l (i * 2 ^ m) P) (m + 2) x y) (codeR b l) m ∈ V)
  up : ∀ (m : Nat) (x y : Int), j ≤ m → m + 2 ≤ M → (2 : Int) ^ m ∣ x → (2 : Int) ^ m ∣ y → sqOf (treeOf P (m + 2) x y) ∈ V ∧ Thing.note (treeOf P (m + 2) x y) (codeR b l) j ∈ V
  out : ∀ (m : Nat) (x y : Int), j ≤ m → m + 2 ≤ M → (2 : Int) ^ m ∣ x → (2 : Int) ^ m ∣ y → sqOf (treeOf (evN b l (2 ^ j) P) (m + 1) x y) ∈ V
section
variable {b l : Int} {P : Int → Int → Bool} {j M : Nat} {V : List Thing}
theorem four_tree (Q : Int → Int → Bool) (n : Nat) (x y : Int) {r c : Nat} (hr : r ≤ 2) (hc : c ≤ 2) : fourT (gT (treeOf Q (n + 2) x y)) r c = treeOf Q (n + 1) (x + c * 2 ^ n) (y + r * 2 ^ n) :=
  fourT_of fun r' c' hr' hc' => gT_of Q n x y (by omega) (by omega)
theorem mid_tree (Q : Int → Int → Bool) (n : Nat) (a d : Int) : midT (treeOf Q (n + 2) a d) = treeOf Q (n + 1) (a + 2 ^ n) (d + 2 ^ n) := by
  unfold midT
  have := four_tree Q n a d (r := 1) (c := 1) (by decide) (by decide)
  simpa using this
theorem dvd_of {m a b : Int} (h : m ∣ a) (e : ∃ k, b = a + m * k) : m ∣ b := by
  obtain ⟨k, rfl⟩ := e
  exact Int.dvd_add h (Int.dvd_mul_right m k)
/-- The nine squares' results, where the leap is full. -/
theorem nine_full (b l : Int) (n : Nat) (Q : Int → Int → Bool) (x y : Int) {r c : Nat} (hr : r ≤ 2) (hc : c ≤ 2) :
    resT b l n (fourT (gT (treeOf Q (n + 3) x y)) r c) (n : Int) = treeOf (evN b l (2 ^ n) Q) (n + 1) (x + 2 ^ n + c * 2 ^ (n + 1)) (y + 2 ^ n + r * 2 ^ (n + 1)) := by
  rw [four_tree Q (n + 1) x y hr hc, resT_of b l n Q _ _ n (Nat.le_refl _)]
  congr 1 <;> omega
theorem four_full (b l : Int) (n : Nat) (Q : Int → Int → Bool) (x y : Int) {r c : Nat} (hr : r ≤ 1) (hc : c ≤ 1) :
    fourT (fun y_1 x_1 => resT b l n (fourT (gT (treeOf Q (n + 3) x y)) y_1 x_1) (n : Int)) r c = treeOf (evN b l (2 ^ n) Q) (n + 2) (x + 2 ^ n + c * 2 ^ (n + 1)) (y + 2 ^ n + r * 2 ^ (n + 1)) :=
  fourT_of fun r' c' hr' hc' => nine_full b l n Q x y (by omega) (by omega)
theorem four_part (n : Nat) (Q : Int → Int → Bool) (x y : Int) {r c : Nat} (hr : r ≤ 1) (hc : c ≤ 1) :
    fourT (fun y_1 x_1 => midT (fourT (gT (treeOf Q (n + 3) x y)) y_1 x_1)) r c = treeOf Q (n + 2) (x + 2 ^ n + c * 2 ^ (n + 1)) (y + 2 ^ n + r * 2 ^ (n + 1)) :=
  fourT_of fun r' c' hr' hc' => by
    rw [four_tree Q (n + 1) x y (by omega) (by omega), mid_tree]
    congr 1 <;> omega
theorem pow2_pos (n : Nat) : 0 < 2 ^ n := Nat.two_pow_pos n
/-- Below the leap's own level: by halves. -/
theorem clo_full (h : Wins b l P j M V) : ∀ (n i : Nat) (x y : Int), n + 1 ≤ j → (i + 1) * 2 ^ n ≤ 2 ^ j → (2 : Int) ^ (n + 1) ∣ x - i * 2 ^ n → (2 : Int) ^ (n + 1) ∣ y - i * 2 ^ n → Clo b l n (treeOf (evN b l (i * 2 ^ n) P) (n + 2) x y) (n : Int) V
  | 0, i, x, y, hn, hi, hx, hy => by
    obtain ⟨_, h2⟩ := h.full 0 i x y hn (by simp at hi ⊢; omega) hx hy
    refine ⟨h2 hi, ?_⟩
    rw [small_of]
    exact h.one _ _ _
  | n + 1, i, x, y, hn, hi, hx, hy => by
    have hp : (2 : Int) ^ (n + 1) = 2 ^ n * 2 := Int.pow_succ 2 n
    have hp2 : (2 : Int) ^ (n + 2) = 2 ^ n * 4 := by rw [Int.pow_succ, hp]; omega
    have hq : 2 ^ (n + 1) = 2 ^ n * 2 := Nat.pow_succ 2 n
    have hpos := pow2_pos n
    obtain ⟨h1, h2⟩ := h.full (n + 1) i x y hn (Nat.le_trans (Nat.mul_le_mul_right _ (Nat.le_succ i)) hi) hx hy
    have hj1 : ((n + 1 : Nat) : Int) - 1 = (n : Int) := by omega
    have ei : i * 2 ^ (n + 1) = (2 * i) * 2 ^ n := by rw [hq, ← Nat.mul_assoc, Nat.mul_right_comm, Nat.mul_comm i 2]
    have ei2 : i * 2 ^ (n + 1) + 2 ^ n = (2 * i + 1) * 2 ^ n := by rw [ei, Nat.add_mul, Nat.one_mul]
    have ei3 : i * 2 ^ (n + 1) + 2 ^ (n + 1) = (2 * i + 2) * 2 ^ n := by rw [ei, hq, Nat.add_mul, Nat.mul_comm 2 (2 ^ n)]
    have le1 : (2 * i + 1 + 1) * 2 ^ n ≤ 2 ^ j := by
      have : (2 * i + 1 + 1) * 2 ^ n = (i + 1) * 2 ^ (n + 1) := by rw [hq, show 2 * i + 1 + 1 = (i + 1) * 2 by omega, Nat.mul_assoc, Nat.mul_comm 2]
      omega
    have le0 : (2 * i + 1) * 2 ^ n ≤ 2 ^ j := Nat.le_trans (Nat.mul_le_mul_right _ (by omega)) le1
    have cast2 : ((2 * i : Nat) : Int) * 2 ^ n = (i : Int) * 2 ^ (n + 1) := by rw [hp]; show (2 : Int) * i * 2 ^ n = _; generalize (2 : Int) ^ n = z; rw [Int.mul_comm z 2, ← Int.mul_assoc, Int.mul_comm (i : Int) 2]
    have hx : (2 : Int) ^ (n + 2) ∣ x - i * 2 ^ (n + 1) := hx
    have hy : (2 : Int) ^ (n + 2) ∣ y - i * 2 ^ (n + 1) := hy
    obtain ⟨kx, hkx⟩ := hx
    obtain ⟨ky, hky⟩ := hy
    have ex : x = (i : Int) * 2 ^ (n + 1) + 2 ^ (n + 2) * kx := by omega
    have ey : y = (i : Int) * 2 ^ (n + 1) + 2 ^ (n + 2) * ky := by omega
    have e4 : ∀ k : Int, (2 : Int) ^ (n + 2) * k = 2 ^ (n + 1) * (2 * k) := fun k => by rw [hp, hp2]; generalize (2 : Int) ^ n = z; rw [Int.mul_assoc z 4 k, Int.mul_assoc z 2 (2 * k)]; congr 1; omega
    have evS : ∀ k, evN b l (2 ^ k) (evN b l (i * 2 ^ (n + 1)) P) = evN b l (i * 2 ^ (n + 1) + 2 ^ k) P := fun k => evN_add b l P _ _
    refine ⟨h2 hi, fun r c hr hc => ?_, fun r c hr hc => ?_, ?_⟩
    · rw [four_tree _ (n + 1) x y (by omega) (by omega), hj1]
      have dx : (2 : Int) ^ (n + 1) ∣ x + c * 2 ^ (n + 1) - ((2 * i : Nat) : Int) * 2 ^ n := ⟨2 * kx + c, by rw [cast2, ex, e4, Int.mul_add, Int.mul_comm (c : Int)]; omega⟩
      have dy : (2 : Int) ^ (n + 1) ∣ y + r * 2 ^ (n + 1) - ((2 * i : Nat) : Int) * 2 ^ n := ⟨2 * ky + r, by rw [cast2, ey, e4, Int.mul_add, Int.mul_comm (r : Int)]; omega⟩
      rw [ei]
      exact ⟨(h.full n (2 * i) _ _ (by omega) (by rw [← ei]; exact Nat.le_trans (Nat.mul_le_mul_right _ (Nat.le_succ i)) hi) dx dy).1, fun _ => clo_full h n (2 * i) _ _ (by omega) le0 dx dy, fun hf => absurd rfl hf⟩
    · have hif : ((n + 1 : Nat) : Int) = ((n + 1 : Nat) : Int) := rfl
      simp only [↓reduceIte, hj1]
      rw [four_full b l n _ x y (by omega) (by omega), evS, ei2]
      have castO : ((2 * i + 1 : Nat) : Int) * 2 ^ n = (i : Int) * 2 ^ (n + 1) + 2 ^ n := by rw [Int.natCast_add, Int.add_mul, cast2]; simp
      have dx : (2 : Int) ^ (n + 1) ∣ x + 2 ^ n + c * 2 ^ (n + 1) - ((2 * i + 1 : Nat) : Int) * 2 ^ n := ⟨2 * kx + c, by rw [castO, ex, e4, Int.mul_add, Int.mul_comm (c : Int)]; omega⟩
      have dy : (2 : Int) ^ (n + 1) ∣ y + 2 ^ n + r * 2 ^ (n + 1) - ((2 * i + 1 : Nat) : Int) * 2 ^ n := ⟨2 * ky + r, by rw [castO, ey, e4, Int.mul_add, Int.mul_comm (r : Int)]; omega⟩
      exact ⟨(h.full n (2 * i + 1) _ _ (by omega) le0 dx dy).1, clo_full h n (2 * i + 1) _ _ (by omega) le1 dx dy⟩
    · rw [resT_of b l (n + 1) _ x y (n + 1) (Nat.le_refl _), evS, ei3]
      have castE : ((2 * i + 2 : Nat) : Int) * 2 ^ n = (i : Int) * 2 ^ (n + 1) + 2 ^ (n + 1) := by rw [Int.natCast_add, Int.add_mul, cast2, hp]; omega
      have dx : (2 : Int) ^ (n + 1) ∣ x + 2 ^ (n + 1) - ((2 * i + 2 : Nat) : Int) * 2 ^ n := ⟨2 * kx, by rw [castE, ex, e4]; omega⟩
      have dy : (2 : Int) ^ (n + 1) ∣ y + 2 ^ (n + 1) - ((2 * i + 2 : Nat) : Int) * 2 ^ n := ⟨2 * ky, by rw [castE, ey, e4]; omega⟩
      exact (h.full n (2 * i + 2) _ _ (by omega) le1 dx dy).1
/-- From the leap's own level on. -/
theorem clo_up (h : Wins b l P j M V) : ∀ (n : Nat) (x y : Int), j ≤ n → n + 2 ≤ M → (2 : Int) ^ n ∣ x → (2 : Int) ^ n ∣ y → Clo b l n (treeOf P (n + 2) x y) (j : Int) V
  | 0, x, y, hj, hM, hx, hy => by
    obtain rfl : j = 0 := by omega
    refine ⟨(h.up 0 x y (Nat.le_refl _) hM hx hy).2, ?_⟩
    rw [small_of]
    exact h.one _ _ _
  | n + 1, x, y, hj, hM, hx, hy => by
    have hp : (2 : Int) ^ (n + 1) = 2 ^ n * 2 := Int.pow_succ 2 n
    have hd : (2 : Int) ^ n ∣ 2 ^ (n + 1) := ⟨2, hp⟩
    have d1 : ∀ {a : Int} (c : Nat), (2 : Int) ^ (n + 1) ∣ a → (2 : Int) ^ (n + 1) ∣ a + c * 2 ^ (n + 1) := fun c ha => Int.dvd_add ha (Int.dvd_mul_left _ _)
    have d2 : ∀ {a : Int} (c : Nat), (2 : Int) ^ (n + 1) ∣ a → (2 : Int) ^ n ∣ a + 2 ^ n + c * 2 ^ (n + 1) := fun c ha => Int.dvd_add (Int.dvd_add (Int.dvd_trans hd ha) (Int.dvd_refl _)) (Int.dvd_trans hd (Int.dvd_mul_left _ _))
    have d3 : ∀ {a : Int}, (2 : Int) ^ (n + 1) ∣ a → (2 : Int) ^ (n + 1) ∣ a + 2 ^ (n + 1) := fun ha => Int.dvd_add ha (Int.dvd_refl _)
    obtain ⟨h1, h2⟩ := h.up (n + 1) x y hj hM hx hy
    by_cases hf : j = n + 1
    · subst hf
      have hj1 : ((n + 1 : Nat) : Int) - 1 = (n : Int) := by omega
      have hle : ∀ k, k ≤ 2 → k * 2 ^ n ≤ 2 ^ (n + 1) := fun k hk => by rw [Nat.pow_succ, Nat.mul_comm (2 ^ n)]; exact Nat.mul_le_mul_right _ hk
      have ev0 : evN b l (0 * 2 ^ n) P = P := by rw [Nat.zero_mul]; rfl
      have ev1 : evN b l (1 * 2 ^ n) P = evN b l (2 ^ n) P := by rw [Nat.one_mul]
      refine ⟨h2, fun r c hr hc => ?_, fun r c hr hc => ?_, ?_⟩
      · rw [four_tree _ (n + 1) x y (by omega) (by omega), hj1]
        have dx : (2 : Int) ^ (n + 1) ∣ x + c * 2 ^ (n + 1) - ((0 : Nat) : Int) * 2 ^ n := by simpa using d1 c hx
        have dy : (2 : Int) ^ (n + 1) ∣ y + r * 2 ^ (n + 1) - ((0 : Nat) : Int) * 2 ^ n := by simpa using d1 r hy
        have g1 := (h.full n 0 _ _ (Nat.le_refl _) (by simp) dx dy).1
        have g2 := clo_full h n 0 _ _ (Nat.le_refl _) (hle 1 (by decide)) dx dy
        rw [ev0] at g1 g2
        exact ⟨g1, fun _ => g2, fun hf => absurd rfl hf⟩
      · simp only [↓reduceIte, hj1]
        rw [four_full b l n _ x y (by omega) (by omega)]
        have dx : (2 : Int) ^ (n + 1) ∣ x + 2 ^ n + c * 2 ^ (n + 1) - ((1 : Nat) : Int) * 2 ^ n := by
          have := d1 c hx
          rw [show x + 2 ^ n + c * 2 ^ (n + 1) - ((1 : Nat) : Int) * 2 ^ n = x + c * 2 ^ (n + 1) by simp; omega]; exact this
        have dy : (2 : Int) ^ (n + 1) ∣ y + 2 ^ n + r * 2 ^ (n + 1) - ((1 : Nat) : Int) * 2 ^ n := by
          have := d1 r hy
          rw [show y + 2 ^ n + r * 2 ^ (n + 1) - ((1 : Nat) : Int) * 2 ^ n = y + r * 2 ^ (n + 1) by simp; omega]; exact this
        have g1 := (h.full n 1 _ _ (Nat.le_refl _) (hle 1 (by decide)) dx dy).1
        have g2 := clo_full h n 1 _ _ (Nat.le_refl _) (hle 2 (by decide)) dx dy
        rw [ev1] at g1 g2
        exact ⟨g1, g2⟩
      · rw [resT_of b l (n + 1) _ x y (n + 1) (Nat.le_refl _)]
        exact h.out (n + 1) _ _ (Nat.le_refl _) hM (d3 hx) (d3 hy)
    · have hf' : ¬ (j : Int) = ((n + 1 : Nat) : Int) := by omega
      have hjn : j ≤ n := by omega
      refine ⟨h2, fun r c hr hc => ?_, fun r c hr hc => ?_, ?_⟩
      · rw [four_tree _ (n + 1) x y (by omega) (by omega)]
        refine ⟨(h.up n _ _ hjn (by omega) (Int.dvd_trans hd (d1 c hx)) (Int.dvd_trans hd (d1 r hy))).1, fun hf => absurd hf hf', fun _ => ?_⟩
        rw [mid_tree]
        have ax : x + c * 2 ^ (n + 1) + 2 ^ n = x + 2 ^ n + c * 2 ^ (n + 1) := by omega
        have ay : y + r * 2 ^ (n + 1) + 2 ^ n = y + 2 ^ n + r * 2 ^ (n + 1) := by omega
        cases n with
        | zero => exact h.one _ _ _
        | succ k =>
          have hk : (2 : Int) ^ k ∣ 2 ^ (k + 1) := ⟨2, Int.pow_succ 2 k⟩
          by_cases hjk : j ≤ k
          · rw [ax, ay]
            exact (h.up k _ _ hjk (by omega) (Int.dvd_trans hk (d2 c hx)) (Int.dvd_trans hk (d2 r hy))).1
          · obtain rfl : j = k + 1 := by omega
            have g := (h.full k 0 (x + 2 ^ (k + 1) + c * 2 ^ (k + 1 + 1)) (y + 2 ^ (k + 1) + r * 2 ^ (k + 1 + 1)) (Nat.le_refl _) (by simp) (by simpa using d2 c hx) (by simpa using d2 r hy)).1
            rw [show evN b l (0 * 2 ^ k) P = P by rw [Nat.zero_mul]; rfl] at g
            rw [ax, ay]
            exact g
      · simp only [if_neg hf']
        rw [four_part n _ x y (by omega) (by omega)]
        exact ⟨(h.up n _ _ hjn (by omega) (d2 c hx) (d2 r hy)).1, clo_up h n _ _ hjn (by omega) (d2 c hx) (d2 r hy)⟩
      · rw [resT_of b l (n + 1) _ x y j (by omega)]
        exact h.out (n + 1) _ _ hj hM (d3 hx) (d3 hy)
end
end Go.Proofs.Ytgdijlpkbbfedaa
