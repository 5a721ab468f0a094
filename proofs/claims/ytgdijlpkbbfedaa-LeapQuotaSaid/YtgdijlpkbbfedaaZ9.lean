/- leap: large, the walk. -/
import Derived.Test.YtgdijlpkbbfedaaZ8

namespace Go.Proofs.Ytgdijlpkbbfedaa
open Go.RowKit

set_option maxRecDepth 100000 in
set_option maxHeartbeats 25600000 in
theorem llarge_walk (w : World) (hb p : Nat) (R : ArR) (S : ArS) (A : Nat → Abs) (t : Nat) (b l bad : Int) (h : Lp w hb p R S A t b l bad) (C : List Thing → Prop) (G : Nat → Int) (U : Nat → Tree) (F F2 : Nat → Nat → Tree) (V : Nat → Tree) (E : Tree) (n : Nat) (hn : n + 3 ≤ 44) (j : Int) (hj0 : 0 ≤ j) (hj1 : j ≤ 100) (fl : Bool) (hfl : (j == (n : Int) + 3 - 2) = fl)
    (hs : Serves w hb p R S A t b l bad C G U F F2 V E ((n : Int) + 2) j fl) :
    Calls Try.prog 60 #[.pointer (some ⟨hb, 0, none⟩), .agg (gC G), .int .i64 ((n : Int) + 3), .int .i64 j] w (LpPost w hb p R S A t b l bad E C) := by
  have H0 : Hid (LargeI w hb p R S A t b l bad C G U (fun _ => 0) 0 R S A bad ((w.alloc (.cells (gC G) 105)).alloc (.cells (nC fun _ => 0) 127))) := by
    have h1 := h.alloc (.cells (gC G) 105)
    have hq := Lc.new h1 127 (nC fun _ => 0)
    rw [World.size_alloc] at hq
    exact ⟨h1.alloc _, (Lc.new h _ _).alloc _, hq, ((StepN.refl hb p R w).alloc _).alloc _, Grew.refl h.rel t _ bad, fun _ i hi => absurd hi (Nat.not_lt_zero _)⟩
  have HS := Lib.hid hs
  have hn0 : (n : Int) ≤ 41 := by omega
  have hn1 : 0 ≤ (n : Int) := by omega
  have hl1 : (n : Int) + 3 - 1 = (n : Int) + 2 := by omega
  have hwl : IntKind.i64.wrap ((n : Int) + 2) = (n : Int) + 2 := by rw [IntKind.wrap_i64]; omega
  have hwj : IntKind.i64.wrap (j - 1) = j - 1 := by rw [IntKind.wrap_i64]; omega
  clear h hs hn
  unfold gC nC at H0
  unfold gC
  go_enter Try.func60, Try.ntmps60
  go_wp2_with fail
  generalize World.alloc (World.alloc w _) _ = w2 at H0 ⊢
  go_loopw [23] (fun yv wx => ∃ (y : Nat) (N : Nat → Int) (R' : ArR) (S' : ArS) (A' : Nat → Abs) (bad' : Int), yv = .int .i64 y ∧ y ≤ 3 ∧ LargeI w hb p R S A t b l bad C G U N (3 * y) R' S' A' bad' wx) (fun yv _ => 3 - (intOf yv).toNat)
  case atStart => exact ⟨0, _, R, S, A, bad, rfl, Nat.zero_le _, H0.out⟩
  case round =>
    clear H0
    obtain ⟨y, N, R', S', A', bad', rfl, hy, hI⟩ := hrel
    have HI := Lib.hid hI
    clear hI
    by_cases hy3 : y < 3
    · have HY3 := Lib.hid hy3
      have hyi : (y : Int) < 3 := by omega
      have hwy := wrap_succ y (by omega)
      clear hy hy3
      go_wp2_with fail
      go_loopw [26] (fun xv wx => ∃ (x : Nat) (N : Nat → Int) (R' : ArR) (S' : ArS) (A' : Nat → Abs) (bad' : Int), xv = .int .i64 x ∧ x ≤ 3 ∧ LargeI w hb p R S A t b l bad C G U N (3 * y + x) R' S' A' bad' wx) (fun xv _ => 3 - (intOf xv).toNat)
      case atStart => exact ⟨0, N, R', S', A', bad', rfl, Nat.zero_le _, HI.out⟩
      case round =>
        clear HI
        obtain ⟨x, N, R', S', A', bad', rfl, hx, hI⟩ := hrel
        have HI := Lib.hid hI
        clear hI
        by_cases hx3 : x < 3
        · have HX3 := Lib.hid hx3
          have hxi : (x : Int) < 3 := by omega
          have hxi4 : (x : Int) < 4 := by omega
          have hyi4 : (y : Int) < 4 := by omega
          have hxs : ((x + 1 : Nat) : Int) < 4 := by omega
          have hys : ((y + 1 : Nat) : Int) < 4 := by omega
          have hwx := wrap_succ x (by omega)
          have hxs1 : (x : Int) + 1 < 4 := by omega
          have hys1 : (y : Int) + 1 < 4 := by omega
          have hxs0 : (0 : Int) ≤ (x : Int) + 1 := by omega
          have hys0 : (0 : Int) ≤ (y : Int) + 1 := by omega
          have HJN := Lib.hid (fun W hW => HS.out.join N (3 * y + x) R' S' A' bad' W hW y x HY3.out hx3)
          have c0 := HI.out.gg.cell (gC_get G (i := y * 4 + x) (by have := HY3.out; omega))
          have c1 := HI.out.gg.cell (gC_get G (i := y * 4 + (x + 1)) (by have := HY3.out; omega))
          have c2 := HI.out.gg.cell (gC_get G (i := (y + 1) * 4 + x) (by have := HY3.out; omega))
          have c3 := HI.out.gg.cell (gC_get G (i := (y + 1) * 4 + (x + 1)) (by have := HY3.out; omega))
          clear hx hx3
          go_wp2_with fail
          go_cut [13] (fun sv wx => ∃ (r : Int) (R2 : ArR) (S2 : ArS) (A2 : Nat → Abs) (bad2 : Int), sv = .int .i64 r ∧ (bad2 = 0 → Has S2 A2 t r (F y x)) ∧ LargeI w hb p R S A t b l bad C G U N (3 * y + x) R2 S2 A2 bad2 wx)
          case first =>
            go_region_held3 (fun w' => w'.cell? ⟨w.heap.size, y * 4 + x, none⟩ = some (.int .i64 (G (y * 4 + x))) ∧ w'.cell? ⟨w.heap.size, y * 4 + (x + 1), none⟩ = some (.int .i64 (G (y * 4 + (x + 1)))) ∧ w'.cell? ⟨w.heap.size, (y + 1) * 4 + x, none⟩ = some (.int .i64 (G ((y + 1) * 4 + x))) ∧ w'.cell? ⟨w.heap.size, (y + 1) * 4 + (x + 1), none⟩ = some (.int .i64 (G ((y + 1) * 4 + (x + 1)))))
              (first | (with_reducible exact ⟨c0, c1, c2, c3⟩) | (with_reducible exact ⟨e0, e1, e2, e3⟩) | go_keep)
              ((go_at_call 78; refine (HJN.out _ (by exact HI.out.drew)).mono ?_; intro e w3 hq; obtain ⟨r, R2, S2, A2, bad2, rfl, hh, hI3, _, _⟩ := hq; have e0 := hI3.gg.cell (gC_get G (i := y * 4 + x) (by have := HY3.out; have := HX3.out; omega)); have e1 := hI3.gg.cell (gC_get G (i := y * 4 + (x + 1)) (by have := HY3.out; have := HX3.out; omega)); have e2 := hI3.gg.cell (gC_get G (i := (y + 1) * 4 + x) (by have := HY3.out; have := HX3.out; omega)); have e3 := hI3.gg.cell (gC_get G (i := (y + 1) * 4 + (x + 1)) (by have := HY3.out; have := HX3.out; omega))))
            all_goals (
              clear c0 c1 c2 c3 e0 e1 e2 e3
              go_wp2_with fail
              go_meet
              exact ⟨r, R2, S2, A2, bad2, rfl, hh, hI3⟩)
          case rest =>
            obtain ⟨r, R2, S2, A2, bad2, rfl, hh, hI3⟩ := hcut
            have HI3 := Lib.hid hI3
            have HH := Lib.hid hh
            clear hI3 hh c0 c1 c2 c3 HJN HI
            have hix : 3 * y + x < 9 := by have := HY3.out; have := HX3.out; omega
            have HIX := Lib.hid hix
            cases fl
            · have HGR := Lib.hid (fun W hW => HS.out.grid rfl N (3 * y + x) R2 S2 A2 bad2 W hW y x HY3.out HX3.out r HH.out)
              have HMD := Lib.hid (fun W hW g hg => HS.out.mid rfl N (3 * y + x) R2 S2 A2 bad2 W hW y x HY3.out HX3.out g hg)
              go_wp2_with fail
              go_region_law (first
                | (go_simp; go_at_call 58; refine (HGR.out _ (by exact HI3.out.drew)).mono ?_; intro e w4 hq; obtain ⟨g, rfl, hg, hI5⟩ := hq)
                | (go_simp; go_at_call 79; refine (HMD.out _ (by exact hI5) g hg).mono ?_; intro e w5 hq; obtain ⟨r4, R4, S4, A4, bad4, rfl, hh4, hI4, _, _⟩ := hq; have d0 : w5.cell? ⟨w.heap.size + 1, y * 3 + x, none⟩ = some (.int .i64 (N (y * 3 + x))) := hI4.nn.cell (nC_get N (by have := HIX.out; omega)); have f0 := hI4.nn.frozen (y * 3 + x)))
              all_goals (
                have HP := Lib.hid (hI4.put hix hh4)
                clear d0 f0
                go_wp2_with fail
                refine ⟨⟨x + 1, upd N (3 * y + x) r4, R4, S4, A4, bad4, ?_, HX3.out, ?_⟩, ?_⟩
                · go_num
                · have h := HP.out
                  rw [show 3 * y + x = y * 3 + x by omega] at h ⊢
                  rw [show 3 * y + (x + 1) = y * 3 + x + 1 by omega]
                  exact h
                · simp [intOf]; have := HX3.out; omega)
            · have HRS := Lib.hid (fun W hW => HS.out.res rfl N (3 * y + x) R2 S2 A2 bad2 W hW y x HY3.out HX3.out r HH.out)
              go_wp2_with fail
              go_region_law (first
                | (go_simp; go_at_call 48; refine (HRS.out _ (by exact HI3.out.drew)).mono ?_; intro e w4 hq; obtain ⟨r4, R4, S4, A4, bad4, rfl, hh4, hI4, _, _⟩ := hq; have d0 : w4.cell? ⟨w.heap.size + 1, y * 3 + x, none⟩ = some (.int .i64 (N (y * 3 + x))) := hI4.nn.cell (nC_get N (by have := HIX.out; omega)); have f0 := hI4.nn.frozen (y * 3 + x)))
              all_goals (
                have HP := Lib.hid (hI4.put hix hh4)
                clear d0 f0
                go_wp2_with fail
                refine ⟨⟨x + 1, upd N (3 * y + x) r4, R4, S4, A4, bad4, ?_, HX3.out, ?_⟩, ?_⟩
                · go_num
                · have h := HP.out
                  rw [show 3 * y + x = y * 3 + x by omega] at h ⊢
                  rw [show 3 * y + (x + 1) = y * 3 + x + 1 by omega]
                  exact h
                · simp [intOf]; have := HX3.out; omega)
        · obtain rfl : x = 3 := by omega
          go_wp2_with fail
          refine ⟨⟨y + 1, N, R', S', A', bad', ?_, HY3.out, ?_⟩, ?_⟩
          · go_num
          · exact HI.out
          · simp [intOf]; have := HY3.out; omega
    · obtain rfl : y = 3 := by omega
      clear hy hy3
      have HI9 : Hid (LargeI w hb p R S A t b l bad C G U N 9 R' S' A' bad' wr) := HI.out
      clear HI
      go_wp2_with fail
      have H2 : Hid (LargeQ w hb p R S A t b l bad C G U V N wr.heap.size (fun _ => 0) 0 R' S' A' bad' (wr.alloc (.cells #[.int .i64 0, .int .i64 0, .int .i64 0, .int .i64 0] 50))) := ⟨HI9.out.alloc _, Lc.new HI9.out.lp _ (QC fun _ => 0), HI9.out.lo, fun _ k hk => absurd hk (Nat.not_lt_zero _)⟩
      generalize hqb : wr.heap.size = qb at H2 ⊢
      clear HI9 hqb
      generalize World.alloc wr _ = w5 at H2 ⊢
      go_loopw [78] (fun kv wx => ∃ (k : Nat) (Q : Nat → Int) (R' : ArR) (S' : ArS) (A' : Nat → Abs) (bad' : Int), kv = .int .i64 k ∧ k ≤ 4 ∧ LargeQ w hb p R S A t b l bad C G U V N qb Q k R' S' A' bad' wx) (fun kv _ => 4 - (intOf kv).toNat)
      case atStart => exact ⟨0, _, R', S', A', bad', rfl, Nat.zero_le _, H2.out⟩
      case round =>
        clear H2
        obtain ⟨k, Q, R', S', A', bad', rfl, hk, hI⟩ := hrel
        have HI := Lib.hid hI
        clear hI
        by_cases hk4 : k < 4
        · have HK4 := Lib.hid hk4
          obtain ⟨y, hy⟩ : ∃ y, y = k / 2 := ⟨_, rfl⟩
          obtain ⟨x, hx⟩ : ∃ x, x = k % 2 := ⟨_, rfl⟩
          have hki : (k : Int) < 4 := by omega
          have hk0 : 0 ≤ (k : Int) := by omega
          have HYX : Hid (y < 2 ∧ x < 2 ∧ k = 2 * y + x) := ⟨by omega, by omega, by omega⟩
          have hdy : (k : Int) / 2 = (y : Int) := by omega
          have hdx : (k : Int) % 2 = (x : Int) := by omega
          have hty : (k : Int).tdiv 2 = (y : Int) := by rw [Int.tdiv_eq_ediv_of_nonneg hk0]; exact hdy
          have htx : (k : Int).tmod 2 = (x : Int) := by rw [Int.tmod_eq_emod_of_nonneg hk0]; exact hdx
          clear hk hk4 hy hx
          have HJN := Lib.hid (fun W hW => HS.out.join2 N R' S' A' bad' W hW y x HYX.out.1 HYX.out.2.1)
          have hyi : (y : Int) < 3 := by have := HYX.out; omega
          have hxi : (x : Int) < 3 := by have := HYX.out; omega
          have hxs : ((x + 1 : Nat) : Int) < 3 := by have := HYX.out; omega
          have hys : ((y + 1 : Nat) : Int) < 3 := by have := HYX.out; omega
          have hwy := wrap_succ y (by have := HYX.out; omega)
          have hwx := wrap_succ x (by have := HYX.out; omega)
          have hxs1 : (x : Int) + 1 < 3 := by have := HYX.out; omega
          have hys1 : (y : Int) + 1 < 3 := by have := HYX.out; omega
          have hxs0 : (0 : Int) ≤ (x : Int) + 1 := by omega
          have hys0 : (0 : Int) ≤ (y : Int) + 1 := by omega
          have c0 := HI.out.lg.nn.cell (nC_get N (i := y * 3 + x) (by have := HYX.out; omega))
          have c1 := HI.out.lg.nn.cell (nC_get N (i := y * 3 + (x + 1)) (by have := HYX.out; omega))
          have c2 := HI.out.lg.nn.cell (nC_get N (i := (y + 1) * 3 + x) (by have := HYX.out; omega))
          have c3 := HI.out.lg.nn.cell (nC_get N (i := (y + 1) * 3 + (x + 1)) (by have := HYX.out; omega))
          go_wp2_with fail
          go_cut [18] (fun sv wx => ∃ (r : Int) (R2 : ArR) (S2 : ArS) (A2 : Nat → Abs) (bad2 : Int), sv = .int .i64 r ∧ (bad2 = 0 → Has S2 A2 t r (F2 y x)) ∧ LargeQ w hb p R S A t b l bad C G U V N qb Q k R2 S2 A2 bad2 wx)
          case first =>
            go_region_held3 (fun w' => w'.cell? ⟨w.heap.size + 1, y * 3 + x, none⟩ = some (.int .i64 (N (y * 3 + x))) ∧ w'.cell? ⟨w.heap.size + 1, y * 3 + (x + 1), none⟩ = some (.int .i64 (N (y * 3 + (x + 1)))) ∧ w'.cell? ⟨w.heap.size + 1, (y + 1) * 3 + x, none⟩ = some (.int .i64 (N ((y + 1) * 3 + x))) ∧ w'.cell? ⟨w.heap.size + 1, (y + 1) * 3 + (x + 1), none⟩ = some (.int .i64 (N ((y + 1) * 3 + (x + 1)))))
              (first | (with_reducible exact ⟨c0, c1, c2, c3⟩) | (with_reducible exact ⟨e0, e1, e2, e3⟩) | go_keep)
              ((go_at_call 78; refine (HJN.out _ (by exact HI.out.lg.drew)).mono ?_; intro e w3 hq; obtain ⟨r, R2, S2, A2, bad2, rfl, hh, hI3, hs3, hg3⟩ := hq; have e0 := hI3.nn.cell (nC_get N (i := y * 3 + x) (by have := HYX.out; omega)); have e1 := hI3.nn.cell (nC_get N (i := y * 3 + (x + 1)) (by have := HYX.out; omega)); have e2 := hI3.nn.cell (nC_get N (i := (y + 1) * 3 + x) (by have := HYX.out; omega)); have e3 := hI3.nn.cell (nC_get N (i := (y + 1) * 3 + (x + 1)) (by have := HYX.out; omega))))
            all_goals (
              clear c0 c1 c2 c3 e0 e1 e2 e3
              go_wp2_with fail
              go_meet
              exact ⟨r, R2, S2, A2, bad2, rfl, hh, HI.out.drew.step hI3 hs3 hg3⟩)
          case rest =>
            obtain ⟨r, R2, S2, A2, bad2, rfl, hh, hI3⟩ := hcut
            have HI3 := Lib.hid hI3
            have HH := Lib.hid hh
            have HRS := Lib.hid (fun W hW => HS.out.res2 N R2 S2 A2 bad2 W hW y x HYX.out.1 HYX.out.2.1 r HH.out)
            clear hI3 hh c0 c1 c2 c3 HJN HI hdy hdx hty htx
            cases fl
            · have HR2 : Hid (∀ W, LargeI w hb p R S A t b l bad C G U N 9 R2 S2 A2 bad2 W → Calls Try.prog 48 #[.pointer (some ⟨hb, 0, none⟩), .int .i64 r, .int .i64 ((n : Int) + 2), .int .i64 j] W (LargeP w hb p R S A t b l bad C G U N 9 R2 S2 A2 bad2 W (V (2 * y + x)))) := HRS.out
              clear HRS
              go_wp2_with fail
              (with_reducible refine (HR2.out _ HI3.out.lg).mono ?_)
              intro e w4 hq
              obtain ⟨r4, R4, S4, A4, bad4, rfl, hh4, hI4, hs4, hg4⟩ := hq
              have HQ4 := Lib.hid (HI3.out.step hI4 hs4 hg4)
              have d0 := HQ4.out.q.cell (QC_get Q HK4.out)
              have f0 := HQ4.out.q.frozen k
              have HP := Lib.hid (HQ4.out.put HK4.out (by have e := HYX.out.2.2; rw [e]; exact hh4))
              clear hh4 hI4 hs4 hg4
              go_wp2_with fail
              go_roundw
              case rel =>
                repeat apply Exists.intro
                refine And.intro ?_ rfl
                exact ⟨k + 1, upd Q k r4, R4, S4, A4, bad4, by go_num, HK4.out, HP.out⟩
              case measure => simp [intOf]; have := HK4.out; omega
            · have HR2 : Hid (∀ W, LargeI w hb p R S A t b l bad C G U N 9 R2 S2 A2 bad2 W → Calls Try.prog 48 #[.pointer (some ⟨hb, 0, none⟩), .int .i64 r, .int .i64 ((n : Int) + 2), .int .i64 (j - 1)] W (LargeP w hb p R S A t b l bad C G U N 9 R2 S2 A2 bad2 W (V (2 * y + x)))) := HRS.out
              clear HRS
              go_wp2_with fail
              (with_reducible refine (HR2.out _ HI3.out.lg).mono ?_)
              intro e w4 hq
              obtain ⟨r4, R4, S4, A4, bad4, rfl, hh4, hI4, hs4, hg4⟩ := hq
              have HQ4 := Lib.hid (HI3.out.step hI4 hs4 hg4)
              have d0 := HQ4.out.q.cell (QC_get Q HK4.out)
              have f0 := HQ4.out.q.frozen k
              have HP := Lib.hid (HQ4.out.put HK4.out (by have e := HYX.out.2.2; rw [e]; exact hh4))
              clear hh4 hI4 hs4 hg4
              go_wp2_with fail
              go_roundw
              case rel =>
                repeat apply Exists.intro
                refine And.intro ?_ rfl
                exact ⟨k + 1, upd Q k r4, R4, S4, A4, bad4, by go_num, HK4.out, HP.out⟩
              case measure => simp [intOf]; have := HK4.out; omega
        · obtain rfl : k = 4 := by omega
          have HJN := Lib.hid (fun W hW => HS.out.join3 N R' S' A' bad' W hW Q (fun e i hi => HI.out.done e i hi))
          have q0 := HI.out.q.cell (QC_get Q (k := 0) (by decide))
          have q1 := HI.out.q.cell (QC_get Q (k := 1) (by decide))
          have q2 := HI.out.q.cell (QC_get Q (k := 2) (by decide))
          have q3 := HI.out.q.cell (QC_get Q (k := 3) (by decide))
          clear hk hk4
          go_wp2_with fail
          (with_reducible refine (HJN.out _ HI.out.lg).mono ?_)
          intro e w6 hq
          obtain ⟨r4, R4, S4, A4, bad4, rfl, hh4, hI4, hs4, hg4⟩ := hq
          have HI4 := Lib.hid hI4
          have HH4 := Lib.hid hh4
          clear hh4 hI4 hs4 hg4 q0 q1 q2 q3 HJN
          go_wp2_with fail
          go_returns
          exact ⟨r4, S4, A4, R4, bad4, rfl, HI4.out.gr, HH4.out, HI4.out.lp, HI4.out.st.fin⟩
end Go.Proofs.Ytgdijlpkbbfedaa
