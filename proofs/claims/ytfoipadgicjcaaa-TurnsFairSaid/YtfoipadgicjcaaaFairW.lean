/- TurnsFair: the walk. -/
import Derived.Test.YtfoipadgicjcaaaFair
import Derived.Deep.DeepCutAuto
namespace Go.Proofs.Ytfoipadgicjcaaa
open Go.RowKit

theorem below_drewN {B : Nat} {a w : World} (h : Below B a w) (n : Nat) : Below B a (w.drewN n) := ⟨h.os, h.tape, h.output, h.size, h.block⟩

set_option maxRecDepth 100000 in
set_option maxHeartbeats 8000000 in
theorem fair_walk (n0 : Int) (h0 : -9223372036854775808 ≤ n0) (h0' : n0 ≤ 9223372036854775807) (v : Value) (len : Nat) (f : Nat → Bool × Int) (w : World) (hl : Passes w w.heap.size v len f) (hf : ∀ i, -9223372036854775808 ≤ (f i).2 ∧ (f i).2 ≤ 9223372036854775807) :
    Calls Try.prog 3 #[.int .i64 n0, v] w fun e w' => e = .returned (.bool true) ∧ Below w.heap.size w w' := by
  obtain ⟨A, cap, rfl, hlen, hl⟩ := hl
  obtain ⟨N, hN⟩ : ∃ N : Nat, (N : Int) = 1 + n0 % 6 := ⟨(1 + n0 % 6).toNat, by omega⟩
  have hN1 : 0 < N := by omega
  have hN2 : N ≤ 6 := by omega
  have hNe : 1 + n0 % 6 = (N : Int) := hN.symm
  clear hN
  have hmk := fun W => run_make_row' (P := Try.prog) 28 3 (.int .i64 0) 8 Try.underlying28 Try.info3 rfl .i64 .i64 N (by omega) (by omega) W
  have hmk2 := fun W => run_make_row' (P := Try.prog) 29 28 (.slice none 0 0) 24 Try.underlying29 Try.info28 rfl .i64 .i64 N (by omega) (by omega) W
  unfold maxLen at hlen
  have HFB := Lib.hid hf
  have HL := Lib.hid hl
  clear hf hl
  go_enter Try.func3, Try.ntmps3
  go_wp2_with (first
    | (go_at_call 12; (with_reducible refine (spot_any _ 6 (by omega) (by omega) (by omega) (by omega) _).mono ?_); rintro e w' ⟨rfl, rfl⟩)
    | (go_at_call 13; (with_reducible refine (new_ok _ N (by omega) (by omega)).mono ?_); rintro e w' ⟨T, rfl, ht, hb⟩))
  clear hNe h0 h0'
  go_cut [7, 8] (fun s7 s8 wx => ∃ S G, s7 = .slice (some ⟨S, 0, none⟩) N N ∧ s8 = .slice (some ⟨G, 0, none⟩) N N ∧ S ≠ G ∧ w'.heap.size ≤ S ∧ w'.heap.size ≤ G ∧ wx.rowIs S 3 N (fun _ => .int .i64 0) ∧ wx.rowIs G 3 N (fun _ => .int .i64 0) ∧ Below w'.heap.size w' wx)
  case first =>
    go_region
    · go_wp2
      go_meet
      exact ⟨_, _, rfl, rfl, by omega, by omega, by omega, (World.rowIs_made _ (.int .i64 0) N 3).alloc _, by have k := World.rowIs_made (w'.alloc (.cells (madeCells #[.int .i64 0] N) 3)) (.int .i64 0) N 3; simp only [World.size_alloc] at k; exact k.drew, (((Below.refl _ _).alloc (Nat.le_refl _) _).alloc (by simp) _).drew⟩
    · go_wp2
      go_meet
      exact ⟨_, _, rfl, rfl, by omega, by omega, by omega, by have k := World.rowIs_made (w'.alloc (.cells (madeCells #[.int .i64 0] N) 3)) (.int .i64 0) N 3; simp only [World.size_alloc] at k; exact k.drew, (World.rowIs_made _ (.int .i64 0) N 3).alloc _, (((Below.refl _ _).alloc (Nat.le_refl _) _).alloc (by simp) _).drew⟩
  obtain ⟨S, G, rfl, rfl, hSG, hS0, hG0, hrS, hrG, hbx⟩ := hcut
  go_wp2
  clear hmk2
  go_loopw [10] (fun iv wr => ∃ (i nx : Nat) (s g : Nat → Nat) (z : Nat → Nat → Nat) (zb : Nat → Nat) (vz : Nat → Value), iv = .int .i64 i ∧ i ≤ 300 ∧ i ≤ len ∧ (∀ k, k < N → s k ≤ i) ∧
      FairMem wr w.heap.size T S G wc.heap.size N nx s g z zb vz ∧ FairZ N nx s g z ∧ Below w.heap.size w wr) (fun iv _ => len - (intOf iv).toNat)
  case atStart =>
    refine ⟨0, 0, fun _ => 0, fun _ => 0, fun _ _ => 0, fun _ => 0, fun _ => .slice none 0 0, rfl, by omega, Nat.zero_le _, fun _ _ => Nat.le_refl _, ?_, fun j _ h => absurd h (Nat.lt_irrefl _), ?_⟩
    · have hbw := hb.size
      have ht2 : TurnsAt wc w.heap.size T N 0 (fun _ => []) := ht.keep fun b t cs _ hb' => hbx.block b hb'.lt
      exact ⟨(ht2.alloc _).congr fun k _ => (msgs_nil _ _ _ (Nat.le_refl _)).symm, hrS.alloc _, hrG.alloc _, World.rowIs_made wc (.slice none 0 0) N 28, fun k _ h => absurd h (Nat.lt_irrefl _), fun k _ => ⟨_, _, _, rfl⟩, hSG, fun k _ h => absurd h (Nat.lt_irrefl _), fun j k _ _ h => absurd h (Nat.lt_irrefl _), ⟨by omega, by omega, by have := hbx.size; omega⟩, fun k _ h => absurd h (Nat.lt_irrefl _), fun k _ => ⟨Nat.le_refl _, Nat.zero_le _⟩⟩
    · exact (hb.trans (hbx.mono hb.size)).alloc (by have := hb.size; have := hbx.size; omega) _
  case round =>
    obtain ⟨i, nx, s, g, z, zb, vz, rfl, hi, hil, hsi, hF, hFZ, hBw⟩ := hrel
    clear hrS hrG hbx ht
    by_cases hgo : i < len ∧ i < 300
    · obtain ⟨h1, h2⟩ := hgo
      obtain ⟨b, off, rfl, hb1, hcells⟩ := HL.out (by omega)
      obtain ⟨hc1, hc2⟩ := hcells i h1
      rw [← hBw.cell (p := ⟨b, off + i * 2, none⟩) hb1] at hc1
      rw [← hBw.cell (p := ⟨b, off + i * 2 + 1, none⟩) hb1] at hc2
      obtain ⟨hf1, hf2⟩ := HFB.out i
      generalize f i = fi at hc1 hc2 hf1 hf2
      obtain ⟨isPush, ten⟩ := fi
      obtain ⟨k, hk⟩ : ∃ k : Nat, (k : Int) = ten % N := ⟨(ten % N).toNat, by have := Int.emod_nonneg ten (show (N : Int) ≠ 0 by omega); omega⟩
      have hkN : k < N := by have := Int.emod_lt_of_pos ten (show (0 : Int) < N by omega); omega
      have hke : ten % (N : Int) = k := hk.symm
      clear hk hcells
      simp only at hc1 hc2 hf1 hf2
      have HF := Lib.hid hF
      have HFZ := Lib.hid hFZ
      have HT := Lib.hid (And.intro hf1 hf2)
      have HSI := Lib.hid hsi
      have HBW := Lib.hid hBw
      have hBs := hBw.size
      have HSZ : Hid (w.heap.size ≤ wr.heap.size) := hBs
      clear hf1 hf2 hsi hBw hFZ hBs hb hSG hS0 hG0
      cases isPush with
      | true =>
        have hs : wr.cell? ⟨S, k, none⟩ = some (.int .i64 (s k)) := hF.rS.cell hkN
        have hg : wr.cell? ⟨G, k, none⟩ = some (.int .i64 (g k)) := hF.rG.cell hkN
        obtain ⟨hgs1, hgs2⟩ := hF.gs k hkN
        have hsk := HSI.out k hkN
        clear hF
        by_cases hfull : s k = g k + 8
        · have HFULL := Lib.hid hfull
          as_aux_lemma =>
            have hd8 : (((s k : Nat) : Int) - (g k : Nat) == 8) = true := by simp; omega
            clear hfull
            go_wp2_with fail
            (with_reducible refine (spot_any _ (N : Int) (by omega) (by omega) HT.out.1 HT.out.2 _).mono ?_)
            rintro e wq ⟨rfl, rfl⟩
            have he1 := ch_eq1 k
            have he2 := ch_eq2 (s k)
            have hk1 := cat1 Try.prog (48 + k)
            have hk2 := cat2 Try.prog (48 + k) (65 + s k % 26)
            go_wp2_with fail
            (with_reducible refine (push_full _ w.heap.size T N nx _ k _ HF.out.t hkN (by rw [msgs_length]; have := HFULL.out; omega)).mono ?_)
            rintro e wq ⟨rfl, rfl⟩
            go_wp2_with fail
            go_quiet (fail)
            go_wp2
            go_roundw
            case rel => exact ⟨i + 1, nx, s, g, z, zb, vz, by go_num, by omega, by omega, fun k hk => Nat.le_succ_of_le (HSI.out k hk), HF.out.drewN _, HFZ.out, below_drewN HBW.out _⟩
            case measure => simp [intOf]; omega
        · have hlt8 : s k < g k + 8 := by omega
          have HLT8 := Lib.hid hlt8
          have hd8 : (((s k : Nat) : Int) - (g k : Nat) == 8) = false := by simp; omega
          clear hfull hlt8
          go_wp2_with fail
          (with_reducible refine (spot_any _ (N : Int) (by omega) (by omega) HT.out.1 HT.out.2 _).mono ?_)
          rintro e wq ⟨rfl, rfl⟩
          have he1 := ch_eq1 k
          have he2 := ch_eq2 (s k)
          have hk1 := cat1 Try.prog (48 + k)
          have hk2 := cat2 Try.prog (48 + k) (65 + s k % 26)
          go_wp2_with fail
          (with_reducible refine (push_ok _ w.heap.size T N nx _ k _ HF.out.t hkN (by rw [msgs_length]; have := HLT8.out; omega)).mono ?_)
          rintro e w1 ⟨rfl, ht1, hm1⟩
          clear he1 he2 hk1 hk2 hs hg hc1 hc2
          obtain ⟨oS, oG, oZ, oz⟩ := HF.out.others hm1
          have hs : w1.cell? ⟨S, k, none⟩ = some (.int .i64 (s k)) := oS.cell hkN
          have hg : w1.cell? ⟨G, k, none⟩ = some (.int .i64 (g k)) := oG.cell hkN
          have hsf := oS.frozen k
          have hBM : Below w.heap.size w w1 := HBW.out.trans (hm1.below HSZ.out (fun b hb hO => by have := hO.1; omega))
          have HBM := Lib.hid hBM
          have HT1 := Lib.hid ht1
          have HM1 := Lib.hid hm1
          clear hBM ht1 hm1 oz
          by_cases hwait : g k = s k
          · have hsg : (((s k : Nat) : Int) == (g k : Nat)) = true := by simp; omega
            as_aux_lemma =>
              have HW := Lib.hid hwait
              clear hwait
              clear oS oG oZ
              go_wp2_with fail
              go_quiet (fail)
              go_wp2_with fail
              go_quiet (fail)
              go_upto_region 18 with fail
              generalize hw2 : World.drewN (w1.drewN _) _ = w2
              have ht2 : TurnsAt w2 w.heap.size T N nx _ := hw2 ▸ (HT1.out.drewN _).drewN _
              have hm2 : Mod (Own w.heap.size turnTypes wr) wr w2 := hw2 ▸ (HM1.out.drewN _).drewN _
              have hB2 : Below w.heap.size w w2 := hw2 ▸ below_drewN (below_drewN HBM.out _) _
              obtain ⟨oS, oG, oZ, oz⟩ := HF.out.others hm2
              clear hw2 hs hg hsf oz
              have hZk : ∃ A m c, w2.cell? ⟨wc.heap.size, k, none⟩ = some (.slice A m c) := by
                obtain ⟨A, m, c, e⟩ := HF.out.form k hkN
                exact ⟨A, m, c, by rw [oZ.cell hkN, e]⟩
              obtain ⟨A0, m0, c0, hzc⟩ := hZk
              have hZS : wc.heap.size ≠ S := row_ne oZ oS (by decide)
              have hzc2 : ((w2.alloc (.cells (madeCells #[.int .i64 0] N) 3))).cell? ⟨wc.heap.size, k, none⟩ = some (.slice A0 m0 c0) := (World.cell?_alloc_lt w2 _ ⟨wc.heap.size, k, none⟩ oZ.lt).trans hzc
              have hzf2 : ((w2.alloc (.cells (madeCells #[.int .i64 0] N) 3))).frozen? ⟨wc.heap.size, k, none⟩ = false := (oZ.alloc _).frozen k
              have hs2 : ((w2.alloc (.cells (madeCells #[.int .i64 0] N) 3)).setCell ⟨wc.heap.size, k, none⟩ (.slice (some ⟨w2.heap.size, 0, none⟩) N N)).cell? ⟨S, k, none⟩ = some (.int .i64 (s k)) :=
                ((oS.alloc _).setOther (a := ⟨wc.heap.size, k, none⟩) (Ne.symm hZS) _).cell hkN
              have hsf2 : ((w2.alloc (.cells (madeCells #[.int .i64 0] N) 3)).setCell ⟨wc.heap.size, k, none⟩ (.slice (some ⟨w2.heap.size, 0, none⟩) N N)).frozen? ⟨S, k, none⟩ = false :=
                ((oS.alloc _).setOther (a := ⟨wc.heap.size, k, none⟩) (Ne.symm hZS) _).frozen k
              have HT2 := Lib.hid ht2
              have HM2 := Lib.hid hm2
              have HB2 := Lib.hid hB2
              clear oS oG oZ ht2 hm2 hB2 hzc hZS
              go_wp2
              go_roundw
              case rel =>
                have hnew := fair_push_new HF.out hkN HW.out HSZ.out HT2.out HM2.out
                refine ⟨i + 1, nx, _, _, _, _, _, by go_num, by omega, by omega, ?_, hnew, ?_, ?_⟩
                · intro j hj; have := HSI.out j hj; unfold upd; split <;> subst_vars <;> omega
                · intro j hj hw u hu hne
                  by_cases e : j = k
                  · subst e; simp [upd]
                  · have hw' : g j < s j := by simpa [upd, e] using hw
                    simp only [upd, if_neg e]; exact HFZ.out j hj hw' u hu hne
                · refine Below.setCell (Below.setCell (HB2.out.alloc HB2.out.size _) ?_ _) ?_ _
                  · exact HF.out.hB.2.2
                  · exact HF.out.hB.1
              case measure => simp [intOf]; omega
          · have hsg : (((s k : Nat) : Int) == (g k : Nat)) = false := by simp; omega
            as_aux_lemma =>
              have HW : Hid (g k < s k) := by show g k < s k; omega
              clear hwait oS oG oZ
              go_wp2_with fail
              go_quiet (fail)
              go_wp2_with fail
              go_quiet (fail)
              go_wp2
              go_roundw
              case rel =>
                have hnew := fair_push_wait HF.out hkN HW.out HLT8.out HT1.out HM1.out
                refine ⟨i + 1, nx, _, _, _, _, _, by go_num, by omega, by omega, ?_, hnew.drewN _, ?_, ?_⟩
                · intro j hj; have := HSI.out j hj; unfold upd; split <;> subst_vars <;> omega
                · intro j hj hw u hu hne
                  have hw' : g j < s j := by unfold upd at hw; split at hw <;> subst_vars <;> first | exact HW.out | exact hw
                  exact HFZ.out j hj hw' u hu hne
                · exact below_drewN (Below.setCell HBM.out HF.out.hB.1 _) _
              case measure => simp [intOf]; omega
      | false =>
        clear hF
        go_wp2_with fail
        (with_reducible refine (spot_any _ (N : Int) (by omega) (by omega) HT.out.1 HT.out.2 _).mono ?_)
        rintro e wq ⟨rfl, rfl⟩
        by_cases hnone : ∀ j, j < N → s j ≤ g j
        · have HN := Lib.hid hnone
          as_aux_lemma =>
            clear hnone
            go_wp2_with fail
            (with_reducible refine (pop_none _ w.heap.size T N nx _ HF.out.t (fun j hj => msgs_nil _ _ _ (HN.out j hj))).mono ?_)
            rintro e wq ⟨rfl, rfl⟩
            clear hc1 hc2
            go_wp2_with fail
            go_loopw [17, 18] (fun wk jv wx => ∃ (j d : Nat), j ≤ N ∧ jv = .int .i64 j ∧ wk = .bool false ∧ wx = wr.drewN d) (fun _ jv _ => N - (intOf jv).toNat)
            case atStart => exact ⟨0, 0, Nat.zero_le _, rfl, rfl, rfl⟩
            case round =>
              obtain ⟨j, d, hj, rfl, rfl, rfl⟩ := hrel
              by_cases hjN : j < N
              · have hs : wr.cell? ⟨S, j, none⟩ = some (.int .i64 (s j)) := HF.out.rS.cell hjN
                have hg : wr.cell? ⟨G, j, none⟩ = some (.int .i64 (g j)) := HF.out.rG.cell hjN
                have hsg := HN.out j hjN
                have hdd : decide (g j < s j) = false := by simp; omega
                go_wp2_with fail
                go_quiet (fail)
                go_wp2
                go_roundw
                case rel => exact ⟨j + 1, _, by omega, by go_num, rfl, rfl⟩
                case measure => simp [intOf]; omega
              · go_wp2
                go_roundw
                case rel => exact ⟨i + 1, nx, s, g, z, zb, vz, by go_num, by omega, by omega, fun k hk => Nat.le_succ_of_le (HSI.out k hk), HF.out.drewN _, HFZ.out, below_drewN HBW.out _⟩
                case measure => simp [intOf]; omega
        · have hsome : ∃ j, j < N ∧ g j < s j := by
            apply Classical.byContradiction; intro hh; apply hnone; intro j hj
            apply Classical.byContradiction; intro h2; exact hh ⟨j, hj, by omega⟩
          as_aux_lemma =>
            obtain ⟨nn, hpa, hun⟩ := pop_exists HF.out.t.nx_lt hsome
            obtain ⟨u, hu⟩ : ∃ u, u = (nx + nn) % N := ⟨_, rfl⟩
            rw [← hu] at hun
            have huN : u < N := by rw [hu]; exact Nat.mod_lt _ hN1
            have HU := Lib.hid hu
            have HPA := Lib.hid hpa
            have HUN := Lib.hid hun
            have HSOME := Lib.hid hsome
            clear hsome hu hnone hpa hun
            go_wp2_with fail
            (with_reducible refine (pop_some _ w.heap.size T N nx _ HF.out.t nn HPA.out u HU.out ((⟨#[109]⟩ ++ ch (48 + u)) ++ ch (65 + g u % 26)) (msgs u (g u + 1) (s u)) (msgs_cons _ _ _ HUN.out)).mono ?_)
            rintro e w1 ⟨rfl, ht1, hm1⟩
            clear hc1 hc2
            obtain ⟨oS, oG, oZ, oz⟩ := HF.out.others hm1
            have OS := Lib.hid oS
            have OG := Lib.hid oG
            have hBM : Below w.heap.size w w1 := HBW.out.trans (hm1.below HSZ.out (fun b hb hO => by have := hO.1; omega))
            have HBM := Lib.hid hBM
            have HT1 := Lib.hid ht1
            have HM1 := Lib.hid hm1
            clear hBM ht1 hm1 oz oS oG oZ
            go_wp2_with fail
            go_loopw [17, 18] (fun wk jv wx => ∃ (j d : Nat) (bb : Bool), j ≤ N ∧ jv = .int .i64 j ∧ wk = .bool bb ∧ Hid (bb = workB s g j) ∧ wx = w1.drewN d) (fun _ jv _ => N - (intOf jv).toNat)
            case atStart => exact ⟨0, 0, false, Nat.zero_le _, rfl, rfl, rfl, rfl⟩
            case round =>
              obtain ⟨j, d, bb, hj, rfl, rfl, hbb, rfl⟩ := hrel
              by_cases hjN : j < N
              · have hs : w1.cell? ⟨S, j, none⟩ = some (.int .i64 (s j)) := OS.out.cell hjN
                have hg : w1.cell? ⟨G, j, none⟩ = some (.int .i64 (g j)) := OG.out.cell hjN
                have hws := workB_succ s g j
                have HWS := Lib.hid hws
                clear hws
                cases bb with
                | true =>
                  as_aux_lemma =>
                    go_wp2_with fail
                    go_quiet (fail)
                    go_wp2
                    go_roundw
                    case rel => exact ⟨j + 1, _, true, by omega, by go_num, rfl, by show _ = _; rw [HWS.out, ← hbb.out]; rfl, rfl⟩
                    case measure => simp [intOf]; omega
                | false =>
                  as_aux_lemma =>
                    go_wp2_with fail
                    go_quiet (fail)
                    go_wp2
                    go_roundw
                    case rel => exact ⟨j + 1, _, _, by omega, by go_num, rfl, by show _ = _; rw [HWS.out, ← hbb.out]; rfl, rfl⟩
                    case measure => simp [intOf]; omega
              · --C5c
                have hjj : j = N := by omega
                subst hjj
                obtain rfl : bb = true := hbb.out.trans (workB_true HSOME.out)
                clear hbb
                have hs : w1.cell? ⟨S, u, none⟩ = some (.int .i64 (s u)) := OS.out.cell huN
                have hg : w1.cell? ⟨G, u, none⟩ = some (.int .i64 (g u)) := OG.out.cell huN
                have hgf := OG.out.frozen u
                have he1 := ch_eq1 u
                have he2 := ch_eq2 (g u)
                have hu0 : decide ((u : Int) < 0) = false := by simp
                have hu1 : decide (j ≤ u) = false := by simp; omega
                have hu2 : (((s u : Nat) : Int) == (g u : Nat)) = false := by have := HUN.out; simp; omega
                go_wp2_with fail
                have hk1 := cat1 Try.prog (48 + u)
                have hk2 := cat2 Try.prog (48 + u) (65 + g u % 26)
                go_quiet (fail)
                clear hk1 hk2 he1 he2
                go_upto_region 31 with fail
                generalize hw2 : World.drewN (w1.drewN _) _ = w2
                have hg : w2.cell? ⟨G, u, none⟩ = some (.int .i64 (g u)) := by rw [← hw2]; exact OG.out.cell huN
                have hgf : w2.frozen? ⟨G, u, none⟩ = false := by rw [← hw2]; exact OG.out.frozen u
                have hgu : g u ≤ i := Nat.le_trans (HF.out.gs u huN).1 (HSI.out u huN)
                have HF2 : Hid (FairMem (w2.setCell ⟨G, u, none⟩ (.int .i64 ((g u + 1 : Nat) : Int))) w.heap.size T S G wc.heap.size j ((u + 1) % j) s (upd g u (g u + 1)) z zb vz) := by
                  subst hw2
                  exact fair_popped HF.out huN HUN.out ((HT1.out.drewN _).drewN _) ((HM1.out.drewN _).drewN _)
                have HB2 : Hid (Below w.heap.size w (w2.setCell ⟨G, u, none⟩ (.int .i64 ((g u + 1 : Nat) : Int)))) := by
                  subst hw2
                  exact Below.setCell (below_drewN (below_drewN HBM.out _) _) HF.out.hB.2.1 _
                have HN := Lib.hid (fair_next HFZ.out HF.out.t.nx_lt huN HPA.out HU.out (fun k hk => (HF.out.gs k hk).1))
                clear hw2 hs hu0 hu1 hu2
                go_wp2_with fail
                have HGP : Hid (∀ m, m ≠ u → upd g u (g u + 1) m = g m) := fun m hm => by simp [upd, hm]
                generalize hg' : upd g u (g u + 1) = g' at HF2 HN HGP
                generalize hx' : (u + 1) % j = nx' at HF2 HN
                clear hg' hx' hg hgf
                go_loopw [19] (fun jv wx => ∃ (m : Nat), m ≤ j ∧ jv = .int .i64 m ∧ FairMem wx w.heap.size T S G wc.heap.size j nx' s g' (zz s g' z u m) zb vz ∧ Below w.heap.size w wx) (fun jv _ => j - (intOf jv).toNat)
                case atStart => exact ⟨0, Nat.zero_le _, rfl, by rw [zz_zero]; exact HF2.out, HB2.out⟩
                case round =>
                  obtain ⟨m, hm, rfl, hF3, hB3⟩ := hrel
                  have HF3 := Lib.hid hF3
                  have HB3 := Lib.hid hB3
                  clear hF3 hB3
                  by_cases hmj : m < j
                  · have hs : wr.cell? ⟨S, m, none⟩ = some (.int .i64 (s m)) := HF3.out.rS.cell hmj
                    have hg : wr.cell? ⟨G, m, none⟩ = some (.int .i64 (g' m)) := HF3.out.rG.cell hmj
                    by_cases hmu : m = u
                    · have hne : ((m : Int) != (u : Int)) = false := by simp [hmu]
                      have HMU := Lib.hid hmu
                      clear hmu
                      as_aux_lemma =>
                        go_wp2_with fail
                        go_quiet (fail)
                        go_wp2
                        go_roundw
                        case rel => exact ⟨m + 1, by omega, by go_num, by rw [zz_skip (by rw [HMU.out]; simp)]; exact HF3.out.drewN _, below_drewN HB3.out _⟩
                        case measure => simp [intOf]; omega
                    · have hne : ((m : Int) != (u : Int)) = true := by simp; omega
                      have HMU := Lib.hid hmu
                      clear hmu
                      by_cases hwm : g' m < s m
                      · have hdd : decide (g' m < s m) = true := by simpa using hwm
                        have HWM := Lib.hid hwm
                        clear hwm
                        as_aux_lemma =>
                          go_wp2_with fail
                          go_quiet (fail)
                          go_upto_region 36 with fail
                          generalize hw3 : World.drewN wr _ = w3
                          have HF4 : Hid (FairMem w3 w.heap.size T S G wc.heap.size j nx' s g' (zz s g' z u m) zb vz) := by subst hw3; exact HF3.out.drewN _
                          have HB4 : Hid (Below w.heap.size w w3) := by subst hw3; exact below_drewN HB3.out _
                          obtain ⟨hz1, hz2⟩ := HF4.out.zs m hmj HWM.out
                          have hzu : zz s g' z u m m u = 0 := by rw [zz_at]; exact HN.out.1 m hmj HMU.out (by have := HWM.out; rwa [HGP.out m HMU.out] at this)
                          have HZU : Hid (z m u = 0) := by show z m u = 0; rwa [zz_at] at hzu
                          have hzn : wc.heap.size ≠ zb m := row_ne HF4.out.rZ hz2 (by decide)
                          have hc1 : w3.cell? ⟨wc.heap.size, m, none⟩ = some (.slice (some ⟨zb m, 0, none⟩) j j) := by rw [HF4.out.rZ.cell hmj, hz1]
                          have hc2 : w3.cell? ⟨zb m, u, none⟩ = some (.int .i64 0) := by rw [hz2.cell huN, hzu]; rfl
                          have hc3 : w3.frozen? ⟨zb m, u, none⟩ = false := hz2.frozen u
                          have hc4 : (w3.setCell ⟨zb m, u, none⟩ (.int .i64 1)).cell? ⟨wc.heap.size, m, none⟩ = some (.slice (some ⟨zb m, 0, none⟩) j j) := by
                            rw [(HF4.out.rZ.setOther (a := ⟨zb m, u, none⟩) hzn (.int .i64 1)).cell hmj, hz1]
                          have hc5 : (w3.setCell ⟨zb m, u, none⟩ (.int .i64 1)).cell? ⟨zb m, u, none⟩ = some (.int .i64 1) := by
                            rw [(hz2.set u (.int .i64 1)).cell huN, if_pos rfl]
                          have HFC := Lib.hid (fair_count HF4.out hmj HWM.out (u := u) 1)
                          clear hw3 hz1 hz2 hzu hzn hs hg hdd hne
                          go_wp2
                          go_roundw
                          case rel => exact ⟨m + 1, by omega, by go_num, by rw [zz_step HMU.out HWM.out, HZU.out]; exact HFC.out, Below.setCell HB4.out (HF4.out.hB1 m hmj HWM.out) _⟩
                          case measure => simp [intOf]; omega
                      · have hdd : decide (g' m < s m) = false := by simpa using hwm
                        have HWM := Lib.hid hwm
                        clear hwm
                        as_aux_lemma =>
                          go_wp2_with fail
                          go_quiet (fail)
                          go_wp2
                          go_roundw
                          case rel => exact ⟨m + 1, by omega, by go_num, by rw [zz_skip (fun h => HWM.out h.2)]; exact HF3.out.drewN _, below_drewN HB3.out _⟩
                          case measure => simp [intOf]; omega
                  · obtain rfl : m = j := by omega
                    as_aux_lemma =>
                      have hZk : ∃ A m' c, wr.cell? ⟨wc.heap.size, u, none⟩ = some (.slice A m' c) := by
                        obtain ⟨A, m', c, e⟩ := HF3.out.form u huN
                        exact ⟨A, m', c, by rw [HF3.out.rZ.cell huN, e]⟩
                      obtain ⟨A0, m0, c0, hzc⟩ := hZk
                      have hzc2 : ((wr.alloc (.cells (madeCells #[.int .i64 0] m) 3))).cell? ⟨wc.heap.size, u, none⟩ = some (.slice A0 m0 c0) := (World.cell?_alloc_lt wr _ ⟨wc.heap.size, u, none⟩ HF3.out.rZ.lt).trans hzc
                      have hzf2 : ((wr.alloc (.cells (madeCells #[.int .i64 0] m) 3))).frozen? ⟨wc.heap.size, u, none⟩ = false := (HF3.out.rZ.alloc _).frozen u
                      have HFF := Lib.hid (fair_fresh HF3.out huN HB3.out.size)
                      go_wp2
                      go_roundw
                      case rel => exact ⟨i + 1, nx', s, g', _, _, _, by go_num, by omega, by omega, fun k hk => Nat.le_succ_of_le (HSI.out k hk), HFF.out, HN.out.2, Below.setCell (HB3.out.alloc HB3.out.size _) HF3.out.hB.2.2 _⟩
                      case measure => simp [intOf]; omega
    · have hgo' : ¬ (i < len ∧ i < 300) := hgo
      as_aux_lemma =>
        by_cases hil2 : i < len
        · have h300 : ¬ i < 300 := by omega
          clear hgo hgo'
          go_wp2
          go_ret
          exact ⟨rfl, hBw⟩
        · clear hgo hgo'
          go_wp2
          go_ret
          exact ⟨rfl, hBw⟩
end Go.Proofs.Ytfoipadgicjcaaa
