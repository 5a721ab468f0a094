/- leap: large and result, by induction on the level. · leap: result. -/
import Derived.Deep.CutBlock
import Derived.Deep.DeepCutAuto
import Derived.Test.YtgdijlpkbbfedaaZ9

namespace Go.Proofs.Ytgdijlpkbbfedaa
open Go.RowKit

theorem llarge_any (b l : Int) (n : Nat) (hn : n + 3 ≤ 44) (hres : ResOk b l n) (w : World) (hb p : Nat) (R : ArR) (S : ArS) (A : Nat → Abs) (t : Nat) (bad : Int) (h : Lp w hb p R S A t b l bad)
    (G : Nat → Int) (T : Tree) (hT : Pf (n + 3) T) (hG : bad = 0 → ∀ y x, y < 4 → x < 4 → Has S A t (G (y * 4 + x)) (gT T y x)) (j : Int) (hj0 : 0 ≤ j) (hj : j ≤ ((n + 1 : Nat) : Int)) :
    Calls Try.prog 60 #[.pointer (some ⟨hb, 0, none⟩), .agg (gC G), .int .i64 ((n : Int) + 3), .int .i64 j] w (LpPost w hb p R S A t b l bad (resT b l (n + 1) T j) (Clo b l (n + 1) T j)) := by
  have hfull : (j == (n : Int) + 3 - 2) = decide (j = ((n + 1 : Nat) : Int)) := by
    by_cases e : j = ((n + 1 : Nat) : Int)
    · rw [decide_eq_true e]; simp; omega
    · rw [decide_eq_false e]; simp; omega
  have hE : resT b l (n + 1) T j = fourT (fun y x => resT b l n (fourT (nineT b l n T j) y x) (if j = ((n + 1 : Nat) : Int) then j - 1 else j)) 0 0 := resT_succ b l n T j
  have nine : ∀ y x, Pf (n + 1) (nineT b l n T j y x) := fun y x => nine_pf hT j y x
  refine llarge_walk w hb p R S A t b l bad h (Clo b l (n + 1) T j) G (fun i => nineT b l n T j (i / 3) (i % 3)) (fun y x => fourT (gT T) y x) (fun y x => fourT (nineT b l n T j) y x)
    (fun k => resT b l n (fourT (nineT b l n T j) (k / 2) (k % 2)) (if j = ((n + 1 : Nat) : Int) then j - 1 else j)) (resT b l (n + 1) T j) n hn j hj0 (by omega) (decide (j = ((n + 1 : Nat) : Int))) hfull ?_
  have hu : ∀ y x, x < 3 → nineT b l n T j ((3 * y + x) / 3) ((3 * y + x) % 3) = nineT b l n T j y x := fun y x hx => U_at b l n T j y hx
  constructor
  · intro N m R' S' A' bad' W hW y x hy hx
    exact hW.joinC (F := gT T) (y := y) (x := x) (n := n + 1) (by omega) hT.g (fun e => ⟨hW.has hG e y x (by omega) (by omega), hW.has hG e y (x + 1) (by omega) (by omega), hW.has hG e (y + 1) x (by omega) (by omega), hW.has hG e (y + 1) (x + 1) (by omega) (by omega)⟩) (fun V hV => (hV.2.1 y x hy hx).1)
  · intro hfl N m R' S' A' bad' W hW y x hy hx r hr
    have hf : j = ((n + 1 : Nat) : Int) := of_decide_eq_true hfl
    have := hW.resC hres (F := fourT (gT T) y x) (r := r) (j := j - 1) (Pf.four hT.g) hr (by omega) (by omega) (fun V hV => (hV.2.1 y x hy hx).2.1 hf)
    rw [hu y x hx]
    have e : nineT b l n T j y x = resT b l n (fourT (gT T) y x) (j - 1) := by unfold nineT; rw [if_pos hf]
    rw [e]
    exact this
  · intro _ N m R' S' A' bad' W hW y x hy hx r hr
    exact hW.gridC (n := n) (F := fourT (gT T) y x) (Pf.four hT.g) hr
  · intro hfl N m R' S' A' bad' W hW y x hy hx g hg
    have hf : ¬ j = ((n + 1 : Nat) : Int) := of_decide_eq_false hfl
    have := hW.midC (n := n) (F := fourT (gT T) y x) (g := g) (by omega) (Pf.four hT.g) hg (fun V hV => (hV.2.1 y x hy hx).2.2 hf)
    rw [hu y x hx]
    have e : nineT b l n T j y x = midT (fourT (gT T) y x) := by unfold nineT; rw [if_neg hf]
    rw [e]
    exact this
  · intro N R' S' A' bad' W hW y x hy hx
    have key : bad' = 0 → ∀ r c, r < 3 → c < 3 → Has S' A' t (N (r * 3 + c)) (nineT b l n T j r c) := fun e r c hr hc => by
      have := hW.told e (3 * r + c) (by omega)
      rw [hu r c hc] at this
      rw [show r * 3 + c = 3 * r + c by omega]; exact this
    exact hW.joinC (F := nineT b l n T j) (y := y) (x := x) (n := n + 1) (by omega) nine (fun e => ⟨key e y x (by omega) (by omega), key e y (x + 1) (by omega) (by omega), key e (y + 1) x (by omega) (by omega), key e (y + 1) (x + 1) (by omega) (by omega)⟩) (fun V hV => (hV.2.2.1 y x hy hx).1)
  · intro N R' S' A' bad' W hW y x hy hx r hr
    have e1 : (if decide (j = ((n + 1 : Nat) : Int)) = true then j - 1 else j) = if j = ((n + 1 : Nat) : Int) then j - 1 else j := by
      by_cases e : j = ((n + 1 : Nat) : Int)
      · rw [if_pos (decide_eq_true e), if_pos e]
      · rw [if_neg e, decide_eq_false e]; rfl
    have e2 : (2 * y + x) / 2 = y := by omega
    have e3 : (2 * y + x) % 2 = x := by omega
    rw [e1, e2, e3]
    refine hW.resC hres (F := fourT (nineT b l n T j) y x) (r := r) (j := if j = ((n + 1 : Nat) : Int) then j - 1 else j) (Pf.four nine) hr ?_ ?_ (fun V hV => (hV.2.2.1 y x hy hx).2)
    · split <;> omega
    · split <;> omega
  · intro N R' S' A' bad' W hW Q hQ
    rw [hE]
    have hpf : ∀ y x, Pf (n + 1) ((fun y x => resT b l n (fourT (nineT b l n T j) y x) (if j = ((n + 1 : Nat) : Int) then j - 1 else j)) y x) := fun y x => Pf.res (Pf.four nine)
    exact hW.joinC (F := fun y x => resT b l n (fourT (nineT b l n T j) y x) (if j = ((n + 1 : Nat) : Int) then j - 1 else j)) (y := 0) (x := 0) (n := n + 1) (by omega) hpf (fun e => ⟨hQ e 0 (by decide), hQ e 1 (by decide), hQ e 2 (by decide), hQ e 3 (by decide)⟩) (fun V hV => by have := hV.2.2.2; rw [hE] at this; exact this)
section
variable {w wx w1 : World} {hb p : Nat} {R R1 R' : ArR} {S S' : ArS} {A A' : Nat → Abs} {t : Nat} {b l bad bad' : Int} {n : Nat} {T : Tree} {id j : Int}
/-- Behind the square's own work: it is noted. -/
theorem lp_noted (h : Lp w hb p R S A t b l 0) (hg : goodR b l) (hT : Pf (n + 2) T) (hh : Has S A t id T) {v : Int} (hv : Has S A t v (resT b l n T j)) (hj : i64r j) :
    Calls Try.prog 62 #[.pointer (some ⟨p, 0, none⟩), .int .i64 t, .int .i64 id, .int .i64 (codeR b l), .int .i64 j, .int .i64 v] w fun e w' =>
      ∃ (x : Int) (S' : ArS) (A' : Nat → Abs) (R' : ArR), e = .returned (.int .i64 x) ∧ Grew t (fun V => Thing.note T (codeR b l) j ∈ V) S A 0 S' A' x ∧ Lp w' hb p R' S' A' t b l 0 ∧ StepH (fun b => b = hb) p R R' w w' := by
  have hc : i64r (codeR b l) := by
    obtain ⟨⟨b0, b1⟩, ⟨l0, l1⟩, _⟩ := hg
    exact ⟨by unfold codeR; omega, by unfold codeR; omega⟩
  refine (note_any w p R S h.arm h.inv h.rel.live t h.ht h.few id (codeR b l) j v hc hj).mono fun e w' hp => ?_
  obtain ⟨x, S', R', rfl, hn, ha, hs⟩ := hp
  obtain ⟨A', g⟩ := h.rel.noteG h.ht hg hT hh hv hj hn
  exact ⟨x, S', A', R', rfl, g, h.arena ha hs g.st, hs.toH _⟩
/-- What was noted is recalled. -/
theorem lp_recall (h : Lp w hb p R S A t b l 0) (hg : goodR b l) (hT : Pf (n + 2) T) (hh : Has S A t id T) (hj : i64r j) :
    Calls Try.prog 56 #[.pointer (some ⟨p, 0, none⟩), .int .i64 t, .int .i64 id, .int .i64 (codeR b l), .int .i64 j] w fun e w' =>
      ∃ (v : Int) (is : Bool), e = .returned (.tuple #[.int .i64 v, .bool is]) ∧ (is = true → Has S A t v (resT b l n T j)) ∧ Lp w' hb p R S A t b l 0 ∧ StepH (fun b => b = hb) p R R w w' := by
  have hc : i64r (codeR b l) := by
    obtain ⟨⟨b0, b1⟩, ⟨l0, l1⟩, _⟩ := hg
    exact ⟨by unfold codeR; omega, by unfold codeR; omega⟩
  refine (recall_any w p R S h.arm h.inv t h.ht id (codeR b l) j (hh.1.i64 h.inv) hc hj).mono fun e w' hp => ?_
  obtain ⟨v, is, rfl, h1, h2, ha, hs⟩ := hp
  refine ⟨v, is, rfl, fun hi => ?_, h.arena ha hs (St.refl h.rel t), hs.toH _⟩
  obtain ⟨i, e, g1, g2, rfl⟩ := h2 hi
  obtain ⟨i', g3, g4⟩ := h1.1 hi
  have : i = i' := by rw [g1] at g3; have := Option.some.inj g3; omega
  subst this
  exact h.rel.recalled h.ht hg hT hh g1 g2 g4
end
/-- What is between a square's recall and its note. -/
def InnerOk (b l : Int) (n : Nat) (f : FuncId) (more : List Value) (T : Tree) (j : Int) : Prop := ∀ (w : World) (hb p : Nat) (R : ArR) (S : ArS) (A : Nat → Abs) (t : Nat), Lp w hb p R S A t b l 0 → ∀ (G : Nat → Int), (∀ y x, y < 4 → x < 4 → Has S A t (G (y * 4 + x)) (gT T y x)) →
  Calls Try.prog f (.pointer (some ⟨hb, 0, none⟩) :: .agg (gC G) :: more).toArray w (LpPost w hb p R S A t b l 0 (resT b l n T j) (Clo b l n T j))
theorem inner_zero {b l : Int} (hg : goodR b l) {T : Tree} (hT : Pf 2 T) (j : Int) : InnerOk b l 0 59 [] T j := fun w hb p R S A t h G hG => by
  have hl : ∀ y x, y < 4 → x < 4 → gT T y x = .dead ∨ gT T y x = .alive := fun y x _ _ => Pf.g (n := 0) hT y x
  refine (lsmall_any w hb p R S A t b l h hg G (gT T) (fun y x hy hx => ?_) hl).mono fun e w' hp => ?_
  · have := (hG y x hy hx).1
    rcases hl y x hy hx with q | q
    · rw [q] at this ⊢; simp only [Den] at this; exact this
    · rw [q] at this ⊢; simp only [Den] at this; exact this
  · obtain ⟨r, S', A', R', bad', rfl, g1, g2, g3, g4⟩ := hp
    exact ⟨r, S', A', R', bad', rfl, g1.mono fun V hV => hV.2, g2, g3, g4⟩
end Go.Proofs.Ytgdijlpkbbfedaa

namespace Go.Proofs.Ytgdijlpkbbfedaa
open Go.RowKit

set_option maxRecDepth 100000 in
set_option maxHeartbeats 6400000 in
theorem result_walk (b l : Int) (hg : goodR b l) (n : Nat) (hn : n ≤ 42) (h0 : n = 0 → ∀ T j, Pf 2 T → InnerOk b l 0 59 [] T j)
    (h1 : ∀ m, n = m + 1 → ∀ T j, Pf (m + 3) T → 0 ≤ j → j ≤ ((m + 1 : Nat) : Int) → InnerOk b l (m + 1) 60 [.int .i64 ((m : Int) + 3), .int .i64 j] T j) : ResOk b l n := by
  intro w hb p R S A t bad h id T j hT hq hj0 hj
  have H := Lib.hid h
  have HT := Lib.hid hT
  have c4 := h.c4
  by_cases hb0 : bad = 0
  · subst hb0
    have hj64 : i64r j := ⟨by omega, by omega⟩
    have HHS := Lib.hid (hq rfl)
    have HJ := Lib.hid hj64
    have HJ0 := Lib.hid hj0
    have HJN := Lib.hid hj
    have HCD := Lib.hid (fun w => lcode_any w b l hg)
    have HRC := Lib.hid (fun W (hW : Lp W hb p R S A t b l 0) => lp_recall hW hg hT (hq rfl) hj64)
    have HGR := Lib.hid (fun W (hW : Lp W hb p R S A t b l 0) => lgrid_any W hb p R S A t b l 0 hW id T n hT (fun _ => hq rfl))
    have HGD := Lib.hid hg
    have c0 := h.c0
    have c1 := h.c1
    have c2 := h.c2
    have c3 := h.c3
    have H0 := Lib.hid h0
    have H1 := Lib.hid h1
    clear h hT hq hj0 hj hj64 h0 h1
    go_enter Try.func48, Try.ntmps48
    go_wp2_with fail
    go_cut [9, 10] (fun vv iv wx => ∃ (v : Int) (is : Bool), vv = .int .i64 v ∧ iv = .bool is ∧ (is = true → Has S A t v (resT b l n T j)) ∧ Lp wx hb p R S A t b l 0 ∧ StepH (fun b => b = hb) p R R w wx)
    case first =>
      go_region_held3 (fun w' => w'.cell? ⟨hb, 0, none⟩ = some (.pointer (some ⟨p, 0, none⟩)) ∧ w'.cell? ⟨hb, 1, none⟩ = some (.int .i64 t) ∧ w'.cell? ⟨hb, 2, none⟩ = some (.int .i64 b) ∧ w'.cell? ⟨hb, 3, none⟩ = some (.int .i64 l))
        (first | (with_reducible exact ⟨c0, c1, c2, c3⟩) | (with_reducible exact ⟨e0, e1, e2, e3⟩) | (with_reducible exact ⟨g0, g1, g2, g3⟩) | go_keep)
        (first
          | (go_at_call 57; with_reducible refine (HCD.out _).mono ?_; rintro e w3 ⟨rfl, hbc⟩; have HP3 := Lib.hid (H.out.drew.below (w' := w3) ⟨hbc.os, hbc.tape, hbc.output, hbc.size, hbc.block⟩); have e0 := HP3.out.c0; have e1 := HP3.out.c1; have e2 := HP3.out.c2; have e3 := HP3.out.c3)
          | (go_at_call 56; with_reducible refine (HRC.out _ HP3.out).mono ?_; rintro e w4 ⟨v, is, rfl, hv, hp4, hs4⟩; have g0 := hp4.c0; have g1 := hp4.c1; have g2 := hp4.c2; have g3 := hp4.c3))
      all_goals (
        clear c0 c1 c2 c3 e0 e1 e2 e3 g0 g1 g2 g3
        go_wp2_with fail
        go_meet
        exact ⟨v, is, rfl, rfl, hv, hp4, ((StepH.refl (fun b => b = hb) p R w).drew.trans (StepH.of_below hbc)).trans hs4⟩)
    case rest =>
      obtain ⟨v, is, rfl, rfl, hv, hp, hs⟩ := hcut
      have HV := Lib.hid hv
      have HP := Lib.hid hp
      have HSS := Lib.hid hs
      clear hv hp hs c0 c1 c2 c3 HRC
      cases is
      · go_wp2_with fail
        (with_reducible refine (HGR.out _ HP.out).mono ?_)
        rintro e w5 ⟨G, rfl, hG, hp5, hs5⟩
        have HG5 := Lib.hid (hG rfl)
        have HP5 := Lib.hid hp5
        have HS5 := Lib.hid (HSS.out.trans hs5)
        clear hG hp5 hs5 HV HGR HP HSS
        rcases n with _ | m
        · have HIN := Lib.hid (H0.out rfl T j HT.out)
          unfold gC
          go_wp2_with fail
          have HP6 := Lib.hid (HP5.out.alloc (.cells #[.int .i64 (G 0), .int .i64 (G 1), .int .i64 (G 2), .int .i64 (G 3), .int .i64 (G 4), .int .i64 (G 5), .int .i64 (G 6), .int .i64 (G 7), .int .i64 (G 8), .int .i64 (G 9), .int .i64 (G 10), .int .i64 (G 11), .int .i64 (G 12), .int .i64 (G 13), .int .i64 (G 14), .int .i64 (G 15)] 105))
          have HS6 := Lib.hid (HS5.out.alloc (.cells #[.int .i64 (G 0), .int .i64 (G 1), .int .i64 (G 2), .int .i64 (G 3), .int .i64 (G 4), .int .i64 (G 5), .int .i64 (G 6), .int .i64 (G 7), .int .i64 (G 8), .int .i64 (G 9), .int .i64 (G 10), .int .i64 (G 11), .int .i64 (G 12), .int .i64 (G 13), .int .i64 (G 14), .int .i64 (G 15)] 105))
          generalize World.alloc w5 _ = w6 at HP6 HS6 ⊢
          have HC : Hid (Calls Try.prog 59 #[.pointer (some ⟨hb, 0, none⟩), .agg #[.int .i64 (G 0), .int .i64 (G 1), .int .i64 (G 2), .int .i64 (G 3), .int .i64 (G 4), .int .i64 (G 5), .int .i64 (G 6), .int .i64 (G 7), .int .i64 (G 8), .int .i64 (G 9), .int .i64 (G 10), .int .i64 (G 11), .int .i64 (G 12), .int .i64 (G 13), .int .i64 (G 14), .int .i64 (G 15)]] w6 (LpPost w6 hb p R S A t b l 0 (resT b l 0 T j) (Clo b l 0 T j))) := HIN.out w6 hb p R S A t HP6.out G HG5.out
          clear HIN HG5 HP5 HS5
          (with_reducible refine HC.out.mono ?_)
          intro e w7 hq
          unfold LpPost at hq
          obtain ⟨r, S7, A7, R7, bad7, rfl, hg7, hh7, hp7, hs7⟩ := hq
          have HG7 := Lib.hid hg7
          have HH7 := Lib.hid hh7
          have HP7 := Lib.hid hp7
          have HS7 := Lib.hid (HS6.out.trans hs7)
          have c4 := hp7.c4
          clear hg7 hh7 hp7 hs7 HC HP6 HS6
          by_cases hb7 : bad7 = 0
          · subst hb7
            have c0 := HP7.out.c0
            have c1 := HP7.out.c1
            have c2 := HP7.out.c2
            have c3 := HP7.out.c3
            have HID : Hid (Has S7 A7 t id T) := HHS.out.st H.out.ht HG7.out.st
            have HNT := Lib.hid (fun W (hW : Lp W hb p R7 S7 A7 t b l 0) => lp_noted hW HGD.out HT.out HID.out (HH7.out rfl) HJ.out)
            go_wp2_with fail
            go_region_held3 (fun w' => w'.cell? ⟨hb, 0, none⟩ = some (.pointer (some ⟨p, 0, none⟩)) ∧ w'.cell? ⟨hb, 1, none⟩ = some (.int .i64 t) ∧ w'.cell? ⟨hb, 2, none⟩ = some (.int .i64 b) ∧ w'.cell? ⟨hb, 3, none⟩ = some (.int .i64 l))
              (first | (with_reducible exact ⟨c0, c1, c2, c3⟩) | (with_reducible exact ⟨e0, e1, e2, e3⟩) | (with_reducible exact ⟨g0, g1, g2, g3⟩) | (with_reducible exact ⟨i0, i1, i2, i3⟩) | go_keep)
              (first
                | (go_at_call 57; with_reducible refine (HCD.out _).mono ?_; rintro e w8 ⟨rfl, hbc⟩; have HP8 := Lib.hid (HP7.out.drew.below (w' := w8) ⟨hbc.os, hbc.tape, hbc.output, hbc.size, hbc.block⟩); have e0 := HP8.out.c0; have e1 := HP8.out.c1; have e2 := HP8.out.c2; have e3 := HP8.out.c3)
                | (go_at_call 62; with_reducible refine (HNT.out _ HP8.out).mono ?_; rintro e w9 ⟨x, S9, A9, R9, rfl, hg9, hp9, hs9⟩; have g0 := hp9.c0; have g1 := hp9.c1; have g2 := hp9.c2; have g3 := hp9.c3)
                | (go_at_call 61; with_reducible refine (lfail_any _ hb p R9 S9 A9 t b l 0 x hp9).mono ?_; rintro e w10 ⟨rfl, hp10, hs10, _⟩; rw [if_pos rfl] at hp10; have i0 := hp10.c0; have i1 := hp10.c1; have i2 := hp10.c2; have i3 := hp10.c3))
            all_goals (
              have HX := Lib.hid (And.intro hp10 (((HS7.out.drew.trans (StepH.of_below (w' := w8) ⟨hbc.os, hbc.tape, hbc.output, hbc.size, hbc.block⟩)).trans hs9).trans hs10))
              have HY := Lib.hid (HG7.out.trans (hg9.mono fun V hV => Clo.note hV))
              have HZ : Hid (x = 0 → Has S9 A9 t r _) := fun _ => (by first | exact (HH7.out rfl).st H.out.ht hg9.st | exact (HH7.out trivial).st H.out.ht hg9.st)
              clear c0 c1 c2 c3 e0 e1 e2 e3 g0 g1 g2 g3 i0 i1 i2 i3 hp9 hs9 hg9 hp10 hs10
              go_wp2_with fail
              go_returns
              exact ⟨r, S9, A9, R9, x, rfl, HY.out, HZ.out, HX.out.1, HX.out.2⟩)
          · have hb8 : (bad7 == 0) = false := beq_eq_false_iff_ne.2 hb7
            have HB7 := Lib.hid hb7
            clear hb7
            go_wp2_with fail
            go_returns
            exact ⟨r, S7, A7, R7, bad7, rfl, HG7.out, fun e => absurd e HB7.out, HP7.out, HS7.out⟩
        · have HIN := Lib.hid (H1.out m rfl T j HT.out HJ0.out HJN.out)
          have hlv : (m : Int) + 1 + 2 = (m : Int) + 3 := by omega
          unfold gC
          go_wp2_with fail
          have HP6 := Lib.hid (HP5.out.alloc (.cells #[.int .i64 (G 0), .int .i64 (G 1), .int .i64 (G 2), .int .i64 (G 3), .int .i64 (G 4), .int .i64 (G 5), .int .i64 (G 6), .int .i64 (G 7), .int .i64 (G 8), .int .i64 (G 9), .int .i64 (G 10), .int .i64 (G 11), .int .i64 (G 12), .int .i64 (G 13), .int .i64 (G 14), .int .i64 (G 15)] 105))
          have HS6 := Lib.hid (HS5.out.alloc (.cells #[.int .i64 (G 0), .int .i64 (G 1), .int .i64 (G 2), .int .i64 (G 3), .int .i64 (G 4), .int .i64 (G 5), .int .i64 (G 6), .int .i64 (G 7), .int .i64 (G 8), .int .i64 (G 9), .int .i64 (G 10), .int .i64 (G 11), .int .i64 (G 12), .int .i64 (G 13), .int .i64 (G 14), .int .i64 (G 15)] 105))
          generalize World.alloc w5 _ = w6 at HP6 HS6 ⊢
          have HC : Hid (Calls Try.prog 60 #[.pointer (some ⟨hb, 0, none⟩), .agg #[.int .i64 (G 0), .int .i64 (G 1), .int .i64 (G 2), .int .i64 (G 3), .int .i64 (G 4), .int .i64 (G 5), .int .i64 (G 6), .int .i64 (G 7), .int .i64 (G 8), .int .i64 (G 9), .int .i64 (G 10), .int .i64 (G 11), .int .i64 (G 12), .int .i64 (G 13), .int .i64 (G 14), .int .i64 (G 15)], .int .i64 ((m : Int) + 3), .int .i64 j] w6 (LpPost w6 hb p R S A t b l 0 (resT b l (m + 1) T j) (Clo b l (m + 1) T j))) := HIN.out w6 hb p R S A t HP6.out G HG5.out
          clear HIN HG5 HP5 HS5
          (with_reducible refine HC.out.mono ?_)
          intro e w7 hq
          unfold LpPost at hq
          obtain ⟨r, S7, A7, R7, bad7, rfl, hg7, hh7, hp7, hs7⟩ := hq
          have HG7 := Lib.hid hg7
          have HH7 := Lib.hid hh7
          have HP7 := Lib.hid hp7
          have HS7 := Lib.hid (HS6.out.trans hs7)
          have c4 := hp7.c4
          clear hg7 hh7 hp7 hs7 HC HP6 HS6
          by_cases hb7 : bad7 = 0
          · subst hb7
            have c0 := HP7.out.c0
            have c1 := HP7.out.c1
            have c2 := HP7.out.c2
            have c3 := HP7.out.c3
            have HID : Hid (Has S7 A7 t id T) := HHS.out.st H.out.ht HG7.out.st
            have HNT := Lib.hid (fun W (hW : Lp W hb p R7 S7 A7 t b l 0) => lp_noted hW HGD.out HT.out HID.out (HH7.out rfl) HJ.out)
            go_wp2_with fail
            go_region_held3 (fun w' => w'.cell? ⟨hb, 0, none⟩ = some (.pointer (some ⟨p, 0, none⟩)) ∧ w'.cell? ⟨hb, 1, none⟩ = some (.int .i64 t) ∧ w'.cell? ⟨hb, 2, none⟩ = some (.int .i64 b) ∧ w'.cell? ⟨hb, 3, none⟩ = some (.int .i64 l))
              (first | (with_reducible exact ⟨c0, c1, c2, c3⟩) | (with_reducible exact ⟨e0, e1, e2, e3⟩) | (with_reducible exact ⟨g0, g1, g2, g3⟩) | (with_reducible exact ⟨i0, i1, i2, i3⟩) | go_keep)
              (first
                | (go_at_call 57; with_reducible refine (HCD.out _).mono ?_; rintro e w8 ⟨rfl, hbc⟩; have HP8 := Lib.hid (HP7.out.drew.below (w' := w8) ⟨hbc.os, hbc.tape, hbc.output, hbc.size, hbc.block⟩); have e0 := HP8.out.c0; have e1 := HP8.out.c1; have e2 := HP8.out.c2; have e3 := HP8.out.c3)
                | (go_at_call 62; with_reducible refine (HNT.out _ HP8.out).mono ?_; rintro e w9 ⟨x, S9, A9, R9, rfl, hg9, hp9, hs9⟩; have g0 := hp9.c0; have g1 := hp9.c1; have g2 := hp9.c2; have g3 := hp9.c3)
                | (go_at_call 61; with_reducible refine (lfail_any _ hb p R9 S9 A9 t b l 0 x hp9).mono ?_; rintro e w10 ⟨rfl, hp10, hs10, _⟩; rw [if_pos rfl] at hp10; have i0 := hp10.c0; have i1 := hp10.c1; have i2 := hp10.c2; have i3 := hp10.c3))
            all_goals (
              have HX := Lib.hid (And.intro hp10 (((HS7.out.drew.trans (StepH.of_below (w' := w8) ⟨hbc.os, hbc.tape, hbc.output, hbc.size, hbc.block⟩)).trans hs9).trans hs10))
              have HY := Lib.hid (HG7.out.trans (hg9.mono fun V hV => Clo.note hV))
              have HZ : Hid (x = 0 → Has S9 A9 t r _) := fun _ => (by first | exact (HH7.out rfl).st H.out.ht hg9.st | exact (HH7.out trivial).st H.out.ht hg9.st)
              clear c0 c1 c2 c3 e0 e1 e2 e3 g0 g1 g2 g3 i0 i1 i2 i3 hp9 hs9 hg9 hp10 hs10
              go_wp2_with fail
              go_returns
              exact ⟨r, S9, A9, R9, x, rfl, HY.out, HZ.out, HX.out.1, HX.out.2⟩)
          · have hb8 : (bad7 == 0) = false := beq_eq_false_iff_ne.2 hb7
            have HB7 := Lib.hid hb7
            clear hb7
            go_wp2_with fail
            go_returns
            exact ⟨r, S7, A7, R7, bad7, rfl, HG7.out, fun e => absurd e HB7.out, HP7.out, HS7.out⟩
      · go_wp2_with fail
        go_returns
        exact ⟨v, S, A, R, 0, rfl, Grew.refl H.out.rel t _ _, fun _ => HV.out trivial, HP.out, HSS.out⟩
  · have hb1 : (bad == 0) = false := beq_eq_false_iff_ne.2 hb0
    have HB0 := Lib.hid hb0
    clear hb0 h0 h1 h hT hq hj0 hj
    go_enter Try.func48, Try.ntmps48
    go_wp2_with fail
    go_returns
    exact ⟨0, S, A, R, bad, rfl, Grew.none H.out.rel t _ _, fun e => absurd e HB0.out, H.out, StepH.refl _ p R w⟩
/-- What result gives, at every level. -/
theorem result_any (b l : Int) (hg : goodR b l) : ∀ n, n ≤ 42 → ResOk b l n
  | 0, hn => result_walk b l hg 0 hn (fun _ T j hT => inner_zero hg hT j) (fun m h => absurd h (by omega))
  | n + 1, hn => result_walk b l hg (n + 1) hn (fun h => absurd h (by omega)) (fun m hm T j hT hj0 hj => by
      obtain rfl : m = n := by omega
      intro w hb p R S A t h G hG
      exact llarge_any b l m (by omega) (result_any b l hg m (by omega)) w hb p R S A t 0 h G T hT (fun _ => hG) j hj0 hj)
end Go.Proofs.Ytgdijlpkbbfedaa
