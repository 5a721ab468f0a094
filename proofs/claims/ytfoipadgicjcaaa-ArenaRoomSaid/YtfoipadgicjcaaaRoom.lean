/- ArenaRoom: the walk. -/
import Derived.Test.YtfoipadgicjcaaaRoomS
import Derived.Deep.QuietTactic
import Derived.BigQuiet
import Derived.Deep.CutBlock
import Derived.Deep.DeepCutAuto
namespace Go.Proofs.Ytfoipadgicjcaaa
open Go.RowKit

abbrev DT := 44
theorem sl_one (w : World) (x : Int) : Sl (w.alloc (.cells #[.int .i64 x] IT)) IT 1 (.slice (some ⟨w.heap.size, 0, none⟩) 1 1) 1 (intsV [x]) :=
  ⟨rfl, _, 1, rfl, Nat.le_refl _, (by unfold maxLen; omega), (fun h => nomatch h), (fun a ha => by obtain rfl := Option.some.inj ha; exact ⟨_, rfl, Blk.new _ _ _, by simp, rfl⟩)⟩
theorem kept5 {w w' : World} {p : Nat} {R R' : ArR} {db tb : Nat} {k n a0 a1 a2 a3 t : Value} (hd : Blk w db DT #[k, n, a0, a1, a2, a3]) (ht : Blk w tb IT #[t]) (hs : Step p R R' w w') (h1 : ∀ b, Own p R b → b ≠ db) (h2 : ∀ b, Own p R b → b ≠ tb) :
    w'.cell? ⟨db, 2, none⟩ = some a0 ∧ w'.cell? ⟨db, 3, none⟩ = some a1 ∧ w'.cell? ⟨db, 4, none⟩ = some a2 ∧ w'.cell? ⟨db, 5, none⟩ = some a3 ∧ w'.cell? ⟨tb, 0, none⟩ = some t := by
  have g1 := hd.mod hs.mod fun ho => h1 _ ho rfl
  have g2 := ht.mod hs.mod fun ho => h2 _ ho rfl
  exact ⟨g1.cellS rfl, g1.cellS rfl, g1.cellS rfl, g1.cellS rfl, g2.cellS rfl⟩
set_option maxRecDepth 100000 in
set_option maxHeartbeats 3200000 in
theorem room_any (W : World) (v : Value) (len : Nat) (f : Nat → DeedD) (hd : Deeds W W.heap.size v len f) (hok : ∀ i, i < len → (f i).ok) (q0 q1 q2 q3 : Int) (r0 : i64r q0) (r1 : i64r q1) (r2 : i64r q2) (r3 : i64r q3) :
    Calls Try.prog 4 #[v, .agg #[.int .i64 q0, .int .i64 q1, .int .i64 q2, .int .i64 q3]] W fun e w' => e = .returned (.bool true) ∧ Below W.heap.size W w' := by
  obtain ⟨A, cap, rfl, hl, hD⟩ := hd
  have HD := Lib.hid hD
  have HL := Lib.hid hl
  have HOK := Lib.hid hok
  have HR0 := Lib.hid r0
  have HR1 := Lib.hid r1
  have HR2 := Lib.hid r2
  have HR3 := Lib.hid r3
  clear hl hD hok r0 r1 r2 r3
  go_enter Try.func4, Try.ntmps4
  go_wp2_with fail
  have HQ0 : Hid (Blk (W.alloc (.cells #[.int .i64 q0, .int .i64 q1, .int .i64 q2, .int .i64 q3] TQ)) W.heap.size TQ (quotaC (q4 q0 q1 q2 q3))) := Blk.new W TQ _
  have HBW : Hid (Below W.heap.size W (W.alloc (.cells #[.int .i64 q0, .int .i64 q1, .int .i64 q2, .int .i64 q3] TQ))) := (Below.refl _ _).alloc (Nat.le_refl _) _
  have hsz : (W.alloc (.cells #[.int .i64 q0, .int .i64 q1, .int .i64 q2, .int .i64 q3] TQ)).heap.size = W.heap.size + 1 := World.size_alloc _ _
  have HSZ := Lib.hid hsz
  generalize World.alloc W _ = w0 at *
  clear hsz
  have HQR : Hid (∀ t, t < 4 → i64r (q4 q0 q1 q2 q3 t)) := fun t ht => by
    rcases (by omega : t = 0 ∨ t = 1 ∨ t = 2 ∨ t = 3) with rfl | rfl | rfl | rfl
    · exact HR0.out
    · exact HR1.out
    · exact HR2.out
    · exact HR3.out
  (with_reducible refine (new_any w0 100 (by decide)).mono ?_)
  rintro e w1 ⟨p, R, rfl, hA, hB, hO⟩
  have HA := Lib.hid hA
  have HB := Lib.hid hB
  have HO : Hid (∀ b, Own p R b → W.heap.size < b) := fun b hb => by have := hO b hb; rw [HSZ.out] at this; exact this
  have HA := Lib.hid hA
  clear hA hB hO
  go_wp2_with fail
  go_loopw [7, 8] (fun av bv wx => ∃ (t : Nat) (qu : Nat → Int), av = .int .i64 (sumQ (fun k => q4 q0 q1 q2 q3 k % 26) t) ∧ bv = .int .i64 t ∧ t ≤ 4 ∧ RoomA W wx p R (q4 q0 q1 q2 q3) t qu) (fun _ bv _ => 4 - (intOf bv).toNat)
  case atStart =>
    refine ⟨0, (newA 100 64).quota, rfl, rfl, by decide, ⟨HA.out, ?_, fun k hk => absurd hk (Nat.not_lt_zero k), HBW.out.trans (HB.out.mono (by rw [HSZ.out]; exact Nat.le_succ _))⟩⟩
    exact HQ0.out.mod (Mod.of_below HB.out) (by rw [HSZ.out]; omega)
  case round =>
    obtain ⟨t, qu, rfl, rfl, ht, hr⟩ := hrel
    by_cases h4 : t < 4
    · have c0 := hr.at h4
      have HR := Lib.hid hr
      have f0 : wr.frozen? ⟨W.heap.size, t, none⟩ = false := hr.blk.frozen t
      have k4 : (t : Int) < 4 := Int.ofNat_lt.2 h4
      have k0 : ¬ ((t : Int) < 0) := Int.not_lt.2 (Int.natCast_nonneg t)
      have hqr := HQR.out t h4
      have HQ1 := Lib.hid (show (-9223372036854775808 : Int) ≤ q4 q0 q1 q2 q3 t from And.left hqr)
      have HQ2 := Lib.hid (show q4 q0 q1 q2 q3 t ≤ (9223372036854775807 : Int) from And.right hqr)
      have HT := Lib.hid h4
      clear hr hqr h4 ht
      go_wp2_with fail
      (with_reducible refine (spot_any _ 26 (by decide) (by decide) HQ1.out HQ2.out wr).mono ?_)
      rintro e wq ⟨rfl, rfl⟩
      have c1 : (wr.setCell ⟨W.heap.size, t, none⟩ (.int .i64 (q4 q0 q1 q2 q3 t % 26))).cell? ⟨W.heap.size, t, none⟩ = some (.int .i64 (q4 q0 q1 q2 q3 t % 26)) := by
        have := (HR.out.blk.set t (.int .i64 (q4 q0 q1 q2 q3 t % 26)))
        rw [quotaC_set _ HT.out] at this
        have := this.cellS (quotaC_at _ HT.out)
        rw [upd_same] at this; exact this
      have HA2 : Hid (ArM (wr.setCell ⟨W.heap.size, t, none⟩ (.int .i64 (q4 q0 q1 q2 q3 t % 26))) p R { newA 100 64 with quota := qu }) := HR.out.arm.keep (T := fun b => b = W.heap.size) ((Mod.refl (fun b => b = W.heap.size) wr).set (fun _ => rfl) _) fun b hb e => absurd (HO.out b hb) (by rw [e]; exact Nat.lt_irrefl _)
      have hs0 : IntKind.i64.wrap (sumQ (fun k => q4 q0 q1 q2 q3 k % 26) t + q4 q0 q1 q2 q3 t % 26) = sumQ (fun k => q4 q0 q1 q2 q3 k % 26) (t + 1) := by
        have := sumQ_rng (q := fun k => q4 q0 q1 q2 q3 k % 26) (fun k => mod26 _) t
        have := mod26 (q4 q0 q1 q2 q3 t)
        have := HT.out
        rw [IntKind.wrap_i64]; simp only [sumQ]; omega
      go_wp2_with fail
      have hlm : 0 ≤ q4 q0 q1 q2 q3 t % 26 ∧ q4 q0 q1 q2 q3 t % 26 ≤ ({ newA 100 64 with quota := qu } : ArS).room := by
        have := mod26 (q4 q0 q1 q2 q3 t)
        exact ⟨this.1, show (q4 q0 q1 q2 q3 t % 26 : Int) ≤ 100 by omega⟩
      (with_reducible refine (limit_any _ p R _ HA2.out t (by have := HT.out; omega) _ hlm).mono ?_)
      rintro e w2 ⟨rfl, hA3, hS3⟩
      have HN : Hid (RoomA W w2 p R (q4 q0 q1 q2 q3) (t + 1) (upd qu t (q4 q0 q1 q2 q3 t % 26))) := HR.out.next HO.out HT.out hA3 hS3
      clear hA3 hS3
      go_wp2_with fail
      go_roundw
      case rel => exact ⟨t + 1, _, rfl, by go_num, HT.out, HN.out⟩
      case measure => simp [intOf]; have := HT.out; omega
    · obtain rfl : t = 4 := by omega
      have HR := Lib.hid hr
      clear hr ht h4
      go_wp2_with fail
      obtain ⟨w2, hw2⟩ : ∃ w2, wr.alloc (.cells #[nilV, nilV, nilV, nilV] T4) = w2 := ⟨_, rfl⟩
      have HB : Hid (RoomB W w2 p R { newA 100 64 with quota := qu } (fun k => q4 q0 q1 q2 q3 k % 26) wr.heap.size (fun _ => nilV) (fun _ => []) 0 0) := HR.out.begin HO.out hw2
      have hw3 : World.alloc wr (.cells #[.slice none 0 0, .slice none 0 0, .slice none 0 0, .slice none 0 0] T4) = w2 := hw2
      rw [hw3]
      clear hw2 hw3
      generalize wr.heap.size = mb at *
      have HQS : Hid (∀ k, 0 ≤ (fun k => q4 q0 q1 q2 q3 k % 26) k ∧ (fun k => q4 q0 q1 q2 q3 k % 26) k ≤ 25) := fun k => mod26 _
      clear HR HQR HO HQ0 HBW HSZ HA
      generalize (fun k => q4 q0 q1 q2 q3 k % 26) = Q at *
      go_loopw [10] (fun iv wx => ∃ (i : Nat) (R : ArR) (S : ArS) (sv : Nat → Value) (M : Nat → List Int), iv = .int .i64 i ∧ i ≤ len ∧ i ≤ 200 ∧ RoomB W wx p R S Q mb sv M i i) (fun iv _ => 200 - (intOf iv).toNat)
      case atStart => exact ⟨0, R, _, _, _, rfl, Nat.zero_le _, by decide, HB.out⟩
      case round =>
        obtain ⟨i, R, S, sv, M, rfl, hi, hi2, hr⟩ := hrel
        have HB := Lib.hid hr
        clear hr
        by_cases h1 : i < len
        · have k1 : (i : Int) < (len : Int) := Int.ofNat_lt.2 h1
          by_cases h2 : i < 200
          · have k2 : (i : Int) < 200 := by omega
            obtain ⟨b, off, rfl, hb, hc⟩ := HD.out (by omega)
            obtain ⟨e0, e1, e2, e3, e4, e5⟩ := hc i h1
            have hbw : ∀ j, wr.cell? ⟨b, j, none⟩ = W.cell? ⟨b, j, none⟩ := fun j => HB.out.below.cell hb
            rw [← hbw] at e0 e1 e2 e3 e4 e5
            have k0 : ¬ ((i : Int) < 0) := Int.not_lt.2 (Int.natCast_nonneg i)
            have H1 := Lib.hid h1
            have H2 := Lib.hid h2
            clear hc hbw hb h1 h2 hi hi2
            go_wp2_with fail
            obtain ⟨w2, hw2⟩ : ∃ w2, wr.alloc (.cells #[.int .i64 (f i).kind, .int .i64 (f i).tenant, .int .i64 (f i).a0, .int .i64 (f i).a1, .int .i64 (f i).a2, .int .i64 (f i).a3] DT) = w2 := ⟨_, rfl⟩
            have HB2 : Hid (RoomB W w2 p R S Q mb sv M i i) := by
              subst hw2; exact HB.out.still ((Mod.refl _ _).alloc _)
            have HD2 : Hid (Blk w2 wr.heap.size DT #[.int .i64 (f i).kind, .int .i64 (f i).tenant, .int .i64 (f i).a0, .int .i64 (f i).a1, .int .i64 (f i).a2, .int .i64 (f i).a3]) := by
              subst hw2; exact Blk.new _ _ _
            have HDM : Hid (∀ b, Own p R b ∨ OwnMd mb sv b ∨ b = W.heap.size → b ≠ wr.heap.size) := fun b hb e => by
              subst e
              rcases hb with hb | hb | hb
              · exact absurd (HB.out.arm.own_lt hb) (Nat.lt_irrefl _)
              · exact absurd (HB.out.made.lt hb) (Nat.lt_irrefl _)
              · have := HB.out.blk.lt; omega
            rw [hw2]
            clear hw2 e0 e1 e2 e3 e4 e5 HB
            generalize wr.heap.size = db at *
            obtain ⟨g0, g1, g2, g3, g4, g5⟩ := HOK.out i H1.out
            generalize (f i).kind = kd at *
            generalize (f i).tenant = tn at *
            generalize (f i).a0 = a0 at *
            generalize (f i).a1 = a1 at *
            generalize (f i).a2 = a2 at *
            generalize (f i).a3 = a3 at *
            have HG0 := Lib.hid g0
            have HG1 := Lib.hid g1
            have HG2 := Lib.hid g2
            have HG3 := Lib.hid g3
            have HG4 := Lib.hid g4
            have HG5 := Lib.hid g5
            obtain ⟨g1a, g1b⟩ := g1
            (with_reducible refine (spot_any tn 4 (by decide) (by decide) g1a g1b w2).mono ?_)
            clear g0 g1a g1b g2 g3 g4 g5
            rintro e wq ⟨rfl, rfl⟩
            obtain ⟨t, ht, htn⟩ : ∃ t : Nat, t < 4 ∧ tn % 4 = t := ⟨(tn % 4).toNat, by omega, by omega⟩
            rw [htn]
            have HT := Lib.hid ht
            clear ht htn
            obtain ⟨w3, hw3⟩ : ∃ w3, w2.alloc (.cells #[.int .i64 (t : Int)] IT) = w3 := ⟨_, rfl⟩
            have HB3 : Hid (RoomB W w3 p R S Q mb sv M i i) := by
              subst hw3; exact HB2.out.still ((Mod.refl _ _).alloc _)
            have HD3 : Hid (Blk w3 db DT #[.int .i64 kd, .int .i64 tn, .int .i64 a0, .int .i64 a1, .int .i64 a2, .int .i64 a3]) := by
              subst hw3; exact HD2.out.alloc _
            have HT3 : Hid (Blk w3 w2.heap.size IT #[.int .i64 t]) := by
              subst hw3; exact Blk.new _ _ _
            have HTM : Hid (∀ b, Own p R b ∨ OwnMd mb sv b ∨ b = W.heap.size ∨ b = db → b ≠ w2.heap.size) := fun b hb e => by
              subst e
              rcases hb with hb | hb | hb | hb
              · exact absurd (HB2.out.arm.own_lt hb) (Nat.lt_irrefl _)
              · exact absurd (HB2.out.made.lt hb) (Nat.lt_irrefl _)
              · have := HB2.out.blk.lt; omega
              · have := HD2.out.lt; omega
            have HW3 := Lib.hid hw3
            have d0 : (w2.alloc (.cells #[.int .i64 (t : Int)] IT)).cell? ⟨db, 0, none⟩ = some (.int .i64 kd) := by rw [hw3]; exact HD3.out.cellS rfl
            clear hw3 HB2 HD2
            go_upto_block 4 with fail
            rw [HW3.out]
            clear d0 HW3
            generalize w2.heap.size = tb at *
            go_cut [15] (fun s15 w4 => ∃ (x : Int) (R4 : ArR) (S4 : ArS) (sv4 : Nat → Value) (M4 : Nat → List Int), s15 = .int .i64 x ∧ ¬ x = 5 ∧ RoomB W w4 p R4 S4 Q mb sv4 M4 (i + 1) (i + 1) ∧ Blk w4 tb IT #[.int .i64 t])
            case first =>
              by_cases h1 : kd = 1
              · subst h1
                go_wp2_with fail
                have d2 : w3.cell? ⟨db, 2, none⟩ = some (.int .i64 a0) := HD3.out.cellS rfl
                have d3 : w3.cell? ⟨db, 3, none⟩ = some (.int .i64 a1) := HD3.out.cellS rfl
                have d4 : w3.cell? ⟨db, 4, none⟩ = some (.int .i64 a2) := HD3.out.cellS rfl
                have d5 : w3.cell? ⟨db, 5, none⟩ = some (.int .i64 a3) := HD3.out.cellS rfl
                have t0 : w3.cell? ⟨tb, 0, none⟩ = some (.int .i64 t) := HT3.out.cellS rfl
                have HB3 : Hid (RoomB W w3.drew p R S Q mb sv M i i) := HB3.out.still (Mod.refl _ _).drew
                have HD3 : Hid (Blk w3.drew db DT #[.int .i64 1, .int .i64 tn, .int .i64 a0, .int .i64 a1, .int .i64 a2, .int .i64 a3]) := HD3.out.drew
                have HT3 : Hid (Blk w3.drew tb IT #[.int .i64 t]) := HT3.out.drew
                have hid : ∀ a, i64r a → ∃ x, i64r x ∧ Calls Try.prog 18 #[.int .i64 a, .pointer (some ⟨mb, 0, none⟩), .pointer (some ⟨tb, 0, none⟩)] w3.drew fun e w' => e = .returned (.int .i64 x) ∧ w3.drew = w' := by
                  intro a ha
                  have hl := HB3.out.len t HT.out
                  have h2 := H2.out
                  exact ⟨pickId (M t) a, pickId_rng (HB3.out.rng t HT.out) (by omega) a, roomid_any _ a ha mb tb sv M HB3.out.made t HT.out (HT3.out.cellS rfl) (by omega)⟩
                obtain ⟨x0, hx0, hc0⟩ := hid a0 HG2.out
                obtain ⟨x1, hx1, hc1⟩ := hid a1 HG3.out
                obtain ⟨x2, hx2, hc2⟩ := hid a2 HG4.out
                obtain ⟨x3, hx3, hc3⟩ := hid a3 HG5.out
                have HC0 := Lib.hid hc0
                have HC1 := Lib.hid hc1
                have HC2 := Lib.hid hc2
                have HC3 := Lib.hid hc3
                have HX0 := Lib.hid hx0
                have HX1 := Lib.hid hx1
                have HX2 := Lib.hid hx2
                have HX3 := Lib.hid hx3
                have hal : (S.added t).length ≤ 1000000 := by have := HB3.out.tame.added t HT.out; have := H2.out; omega
                have HJ := Lib.hid (join_any w3.drew p R S HB3.out.arm HB3.out.tame.inv HB3.out.tame.live t (by have := HT.out; omega) hal x0 x1 x2 x3)
                clear hid hc0 hc1 hc2 hc3 hx0 hx1 hx2 hx3 hal
                go_region_held3 (fun w' => w'.cell? ⟨db, 2, none⟩ = some (.int .i64 a0) ∧ w'.cell? ⟨db, 3, none⟩ = some (.int .i64 a1) ∧ w'.cell? ⟨db, 4, none⟩ = some (.int .i64 a2) ∧ w'.cell? ⟨db, 5, none⟩ = some (.int .i64 a3) ∧ w'.cell? ⟨tb, 0, none⟩ = some (.int .i64 t)) (first | exact ⟨d2, d3, d4, d5, t0⟩ | exact ⟨f2, f3, f4, f5, t5⟩)
                  (first
                    | (go_at_call_of 18 (Value.int .i64 a0); refine HC0.out.mono ?_; rintro e w' ⟨rfl, rfl⟩)
                    | (go_at_call_of 18 (Value.int .i64 a1); refine HC1.out.mono ?_; rintro e w' ⟨rfl, rfl⟩)
                    | (go_at_call_of 18 (Value.int .i64 a2); refine HC2.out.mono ?_; rintro e w' ⟨rfl, rfl⟩)
                    | (go_at_call_of 18 (Value.int .i64 a3); refine HC3.out.mono ?_; rintro e w' ⟨rfl, rfl⟩)
                    | (go_at_call 19; refine HJ.out.mono ?_; rintro e w5 ⟨r, x, S5, R5, rfl, hj, hA5, hS5⟩; obtain ⟨f2, f3, f4, f5, t5⟩ := kept5 HD3.out HT3.out hS5 (fun b hb => HDM.out b (.inl hb)) (fun b hb => HTM.out b (.inl hb))))
                obtain ⟨hT5, hx5, hrr⟩ := HB3.out.tame.join HT.out HX0.out HX1.out HX2.out HX3.out hj
                have HB5 : Hid (RoomB W w5 p R5 S5 Q mb sv M (i + 1) i) := HB3.out.step hS5 hA5 hT5
                have HT5 : Hid (Blk w5 tb IT #[.int .i64 t]) := HT3.out.mod hS5.mod fun ho => HTM.out tb (.inl ho) rfl
                have HRR := Lib.hid hrr
                have HX5 := Lib.hid hx5
                clear hj hA5 hS5 hT5 hx5 hrr f2 f3 f4 f5 t5 d2 d3 d4 d5 t0 HC0 HC1 HC2 HC3 HJ HB3 HT3 HD3
                by_cases hx : x = 0
                · subst hx
                  obtain ⟨A, mcap, hsv, _, _⟩ := (HB5.out.made.sl t HT.out).form
                  have HSV := Lib.hid hsv
                  have c5 := HB5.out.made.at HT.out
                  have t5 : w5.cell? ⟨tb, 0, none⟩ = some (.int .i64 t) := HT5.out.cellS rfl
                  have HSL := Lib.hid (HB5.out.made.sl t HT.out)
                  rw [hsv] at c5 HSL
                  have hml := HB5.out.len t HT.out
                  have HNE : Hid (∀ b, OwnMd mb sv b → b ≠ tb) := fun b hb => HTM.out b (.inr (.inl hb))
                  have pm : (w5.alloc (.cells #[.int .i64 r] IT)).cell? ⟨mb, t, none⟩ = some (.slice A (M t).length mcap) := (World.cell?_alloc_lt w5 _ ⟨mb, t, none⟩ HB5.out.made.blk.lt).trans c5
                  have pt : (w5.alloc (.cells #[.int .i64 r] IT)).cell? ⟨tb, 0, none⟩ = some (.int .i64 t) := (World.cell?_alloc_lt w5 _ ⟨tb, 0, none⟩ HT5.out.lt).trans t5
                  generalize hm : (M t).length = m at *
                  have HML := Lib.hid hm
                  have HMI := Lib.hid hml
                  have HX := Lib.hid (Rd.fresh w5 IT #[.int .i64 r] 1 1 rfl (by unfold maxLen; omega))
                  have k4 : (t : Int) < 4 := Int.ofNat_lt.2 HT.out
                  have k5 : ¬ ((t : Int) < 0) := Int.not_lt.2 (Int.natCast_nonneg t)
                  clear hm hsv hml
                  go_wp2_with fail
                  go_region_law
                    ((refine step_append_sl _ rfl (.tmp 103) (.tmp 105) 28 rfl IT (.int .i64 0) 1 8 Try.underlying28 Try.infoInt rfl (by decide) rfl (by exact HSL.out.alloc _) rfl (by exact HX.out) (by intro u hu; simp at hu; subst hu; rfl) (by have := HMI.out; have := H2.out; omega) (by have := HMI.out; have := H2.out; unfold maxLen; omega) ?_; intro v' w6 hs6 hm6 hd6; obtain ⟨c6, f6, t6, ht7, hB7⟩ := HB5.out.appEnd HT.out HSV.out HRR.out HT5.out HNE.out hm6.undrew hs6 HML.out rfl hd6; obtain ⟨A', cap', rfl, g1, g2⟩ := hs6.form))
                  all_goals go_wp2_with fail
                  all_goals go_meet
                  all_goals exact ⟨0, R5, S5, _, _, rfl, by decide, hB7, ht7⟩
                · have hxb : (x == 0) = false := by rw [beq_eq_false_iff_ne]; exact hx
                  go_wp2_with fail
                  go_meet
                  exact ⟨x, R5, S5, _, _, rfl, HX5.out, HB5.out.mono, HT5.out⟩
              by_cases h2 : kd = 2
              · subst h2
                go_wp2_with fail
                have d2 : w3.cell? ⟨db, 2, none⟩ = some (.int .i64 a0) := HD3.out.cellS rfl
                have d3 : w3.cell? ⟨db, 3, none⟩ = some (.int .i64 a1) := HD3.out.cellS rfl
                have d4 : w3.cell? ⟨db, 4, none⟩ = some (.int .i64 a2) := HD3.out.cellS rfl
                have d5 : w3.cell? ⟨db, 5, none⟩ = some (.int .i64 a3) := HD3.out.cellS rfl
                have t0 : w3.cell? ⟨tb, 0, none⟩ = some (.int .i64 t) := HT3.out.cellS rfl
                have HB3 : Hid (RoomB W w3.drew p R S Q mb sv M i i) := HB3.out.still (Mod.refl _ _).drew
                have HD3 : Hid (Blk w3.drew db DT #[.int .i64 2, .int .i64 tn, .int .i64 a0, .int .i64 a1, .int .i64 a2, .int .i64 a3]) := HD3.out.drew
                have HT3 : Hid (Blk w3.drew tb IT #[.int .i64 t]) := HT3.out.drew
                have hid : ∀ a, i64r a → ∃ x, i64r x ∧ Calls Try.prog 18 #[.int .i64 a, .pointer (some ⟨mb, 0, none⟩), .pointer (some ⟨tb, 0, none⟩)] w3.drew fun e w' => e = .returned (.int .i64 x) ∧ w3.drew = w' := by
                  intro a ha
                  have hl := HB3.out.len t HT.out
                  have h2 := H2.out
                  exact ⟨pickId (M t) a, pickId_rng (HB3.out.rng t HT.out) (by omega) a, roomid_any _ a ha mb tb sv M HB3.out.made t HT.out (HT3.out.cellS rfl) (by omega)⟩
                obtain ⟨x0, hx0, hc0⟩ := hid a0 HG2.out
                have HC0 := Lib.hid hc0
                have HX0 := Lib.hid hx0
                have hal : (S.added t).length ≤ 1000000 := by have := HB3.out.tame.added t HT.out; have := H2.out; omega
                have hti : i64r (t : Int) := by have := HT.out; exact ⟨by omega, by omega⟩
                have HTI := Lib.hid hti
                have HJ := Lib.hid (note_any w3.drew p R S HB3.out.arm HB3.out.tame.inv HB3.out.tame.live t (by have := HT.out; omega) hal x0 t a1 x0 hti HG3.out)
                clear hid hc0 hx0 hal hti
                go_region_held3 (fun w' => w'.cell? ⟨db, 2, none⟩ = some (.int .i64 a0) ∧ w'.cell? ⟨db, 3, none⟩ = some (.int .i64 a1) ∧ w'.cell? ⟨db, 4, none⟩ = some (.int .i64 a2) ∧ w'.cell? ⟨db, 5, none⟩ = some (.int .i64 a3) ∧ w'.cell? ⟨tb, 0, none⟩ = some (.int .i64 t)) (first | exact ⟨d2, d3, d4, d5, t0⟩ | exact ⟨f2, f3, f4, f5, t5⟩)
                  (first
                    | (go_at_call_of 18 (Value.int .i64 a0); refine HC0.out.mono ?_; rintro e w' ⟨rfl, rfl⟩)
                    | (go_at_call 20; refine HJ.out.mono ?_; rintro e w5 ⟨x, S5, R5, rfl, hj, hA5, hS5⟩; obtain ⟨f2, f3, f4, f5, t5⟩ := kept5 HD3.out HT3.out hS5 (fun b hb => HDM.out b (.inl hb)) (fun b hb => HTM.out b (.inl hb))))
                obtain ⟨hT5, hx5⟩ := HB3.out.tame.note HT.out HX0.out HTI.out HG3.out hj
                have HB5 : Hid (RoomB W w5 p R5 S5 Q mb sv M (i + 1) i) := HB3.out.step hS5 hA5 hT5
                have HT5 : Hid (Blk w5 tb IT #[.int .i64 t]) := HT3.out.mod hS5.mod fun ho => HTM.out tb (.inl ho) rfl
                have HX5 := Lib.hid hx5
                clear hj hA5 hS5 hT5 hx5 f2 f3 f4 f5 t5 d2 d3 d4 d5 t0 HC0 HJ HB3 HT3 HD3
                go_wp2_with fail
                go_meet
                exact ⟨x, R5, S5, _, _, rfl, HX5.out, HB5.out.mono, HT5.out⟩
              by_cases h3 : kd = 3
              · subst h3
                have t0 : w3.cell? ⟨tb, 0, none⟩ = some (.int .i64 t) := HT3.out.cellS rfl
                go_wp2_with fail
                (with_reducible refine (mark_any w3 p R S HB3.out.arm t (by have := HT.out; omega)).mono ?_)
                rintro e w5 ⟨rfl, hA5, hS5⟩
                have HT5 : Hid (Blk w5 tb IT #[.int .i64 t]) := HT3.out.mod hS5.mod fun ho => HTM.out tb (.inl ho) rfl
                have HB5 := Lib.hid (HB3.out.step hS5 hA5 (HB3.out.tame.mark t)).mono
                clear hA5 hS5
                go_wp2_with fail
                go_meet
                exact ⟨0, _, _, _, _, rfl, by decide, HB5.out, HT5.out⟩
              by_cases h4 : kd = 4
              · subst h4
                have t0 : w3.cell? ⟨tb, 0, none⟩ = some (.int .i64 t) := HT3.out.cellS rfl
                go_wp2_with fail
                (with_reducible refine (undo_any w3 p R S HB3.out.arm HB3.out.tame.inv t (by have := HT.out; omega)).mono ?_)
                rintro e w5 ⟨rfl, hA5, hS5⟩
                have HT5 : Hid (Blk w5 tb IT #[.int .i64 t]) := HT3.out.mod hS5.mod fun ho => HTM.out tb (.inl ho) rfl
                have HB5 := Lib.hid (HB3.out.step hS5 hA5 (HB3.out.tame.undo HT.out)).mono
                clear hA5 hS5
                go_wp2_with fail
                go_meet
                exact ⟨0, _, _, _, _, rfl, by decide, HB5.out, HT5.out⟩
              by_cases h5 : kd = 5
              · subst h5
                go_wp2_with fail
                have d2 : w3.cell? ⟨db, 2, none⟩ = some (.int .i64 a0) := HD3.out.cellS rfl
                have d3 : w3.cell? ⟨db, 3, none⟩ = some (.int .i64 a1) := HD3.out.cellS rfl
                have d4 : w3.cell? ⟨db, 4, none⟩ = some (.int .i64 a2) := HD3.out.cellS rfl
                have d5 : w3.cell? ⟨db, 5, none⟩ = some (.int .i64 a3) := HD3.out.cellS rfl
                have t0 : w3.cell? ⟨tb, 0, none⟩ = some (.int .i64 t) := HT3.out.cellS rfl
                have HA6 : Hid (∀ x : Int, RoomB W (w3.alloc (.cells #[.int .i64 x] IT)).drew p R S Q mb sv M i i) := fun x => HB3.out.still ((Mod.refl _ _).alloc _).drew
                have HD6 : Hid (∀ x : Int, Blk (w3.alloc (.cells #[.int .i64 x] IT)).drew db DT #[.int .i64 5, .int .i64 tn, .int .i64 a0, .int .i64 a1, .int .i64 a2, .int .i64 a3]) := fun x => (HD3.out.alloc _).drew
                have HT6 : Hid (∀ x : Int, Blk (w3.alloc (.cells #[.int .i64 x] IT)).drew tb IT #[.int .i64 t]) := fun x => (HT3.out.alloc _).drew
                have HB3 : Hid (RoomB W w3.drew p R S Q mb sv M i i) := HB3.out.still (Mod.refl _ _).drew
                have HD3 : Hid (Blk w3.drew db DT #[.int .i64 5, .int .i64 tn, .int .i64 a0, .int .i64 a1, .int .i64 a2, .int .i64 a3]) := HD3.out.drew
                have HT3 : Hid (Blk w3.drew tb IT #[.int .i64 t]) := HT3.out.drew
                have hid : ∀ a, i64r a → ∃ x, i64r x ∧ Calls Try.prog 18 #[.int .i64 a, .pointer (some ⟨mb, 0, none⟩), .pointer (some ⟨tb, 0, none⟩)] w3.drew fun e w' => e = .returned (.int .i64 x) ∧ w3.drew = w' := by
                  intro a ha
                  have hl := HB3.out.len t HT.out
                  have h2 := H2.out
                  exact ⟨pickId (M t) a, pickId_rng (HB3.out.rng t HT.out) (by omega) a, roomid_any _ a ha mb tb sv M HB3.out.made t HT.out (HT3.out.cellS rfl) (by omega)⟩
                obtain ⟨x0, hx0, hc0⟩ := hid a0 HG2.out
                have HC0 := Lib.hid hc0
                have HX0 := Lib.hid hx0
                have hcl := clean_any (w3.alloc (.cells #[.int .i64 x0] IT)).drew p R S (HA6.out x0).arm HB3.out.tame.inv t (by have := HT.out; omega) _ 1 [x0] (sl_one w3 x0).drew (by decide) (by intro y hy; rw [List.mem_singleton] at hy; subst hy; exact HX0.out)
                have HJ := Lib.hid hcl
                have d6 := HD6.out x0
                have t6 := (HT6.out x0).cellS (i := 0) rfl
                have f2 := d6.cellS (i := 2) rfl
                have f3 := d6.cellS (i := 3) rfl
                have f4 := d6.cellS (i := 4) rfl
                have f5 := d6.cellS (i := 5) rfl
                clear hid hc0 hx0 hcl d6
                go_region_held3 (fun w' => w'.cell? ⟨db, 2, none⟩ = some (.int .i64 a0) ∧ w'.cell? ⟨db, 3, none⟩ = some (.int .i64 a1) ∧ w'.cell? ⟨db, 4, none⟩ = some (.int .i64 a2) ∧ w'.cell? ⟨db, 5, none⟩ = some (.int .i64 a3) ∧ w'.cell? ⟨tb, 0, none⟩ = some (.int .i64 t)) (first | exact ⟨d2, d3, d4, d5, t0⟩ | exact ⟨f2, f3, f4, f5, t6⟩ | exact ⟨n2, n3, n4, n5, n0⟩)
                  (first
                    | (go_at_call_of 18 (Value.int .i64 a0); refine HC0.out.mono ?_; rintro e w' ⟨rfl, rfl⟩)
                    | (go_at_call 23; refine HJ.out.mono ?_; rintro e w5 ⟨S5, R5, rfl, hj, hA5, hS5⟩; obtain ⟨n2, n3, n4, n5, n0⟩ := kept5 (HD6.out x0) (HT6.out x0) hS5 (fun b hb => HDM.out b (.inl hb)) (fun b hb => HTM.out b (.inl hb))))
                have HB5 := Lib.hid ((HA6.out x0).step hS5 hA5 ((HA6.out x0).tame.clean HT.out hj)).mono
                have HT5 : Hid (Blk w5 tb IT #[.int .i64 t]) := (HT6.out x0).mod hS5.mod fun ho => HTM.out tb (.inl ho) rfl
                clear hj hA5 hS5 f2 f3 f4 f5 t6 d2 d3 d4 d5 t0 n2 n3 n4 n5 n0
                go_wp2_with fail
                go_meet
                exact ⟨0, _, _, _, _, rfl, by decide, HB5.out, HT5.out⟩
              have e1 : (kd == 1) = false := by rw [beq_eq_false_iff_ne]; exact h1
              have e2 : (kd == 2) = false := by rw [beq_eq_false_iff_ne]; exact h2
              have e3 : (kd == 3) = false := by rw [beq_eq_false_iff_ne]; exact h3
              have e4 : (kd == 4) = false := by rw [beq_eq_false_iff_ne]; exact h4
              have e5 : (kd == 5) = false := by rw [beq_eq_false_iff_ne]; exact h5
              go_wp2_with fail
              go_meet
              exact ⟨0, _, _, _, _, rfl, by decide, HB3.out.idle.mono, HT3.out⟩
            case rest =>
              obtain ⟨x, R4, S4, sv4, M4, rfl, hx5, hB4, hT4⟩ := hcut
              have HB4 := Lib.hid hB4
              have HT4 := Lib.hid hT4
              have hxb : (x == 5) = false := by rw [beq_eq_false_iff_ne]; exact hx5
              clear hB4 hT4
              generalize wc = w4 at *
              have t0 : w4.cell? ⟨tb, 0, none⟩ = some (.int .i64 t) := HT4.out.cellS rfl
              have qc : w4.cell? ⟨W.heap.size, t, none⟩ = some (.int .i64 (Q t)) := HB4.out.blk.cellS (quotaC_at _ HT.out)
              have HN4 := Lib.hid fun n => HB4.out.arm.drewN n
              have hcq : ¬ (Q t < S4.count t) := Int.not_lt.2 (HB4.out.tame.le t HT.out)
              have hlv : ¬ (100 < S4.live) := Int.not_lt.2 HB4.out.tame.live_le
              have HT64 : Hid (t < 64) := by have := HT.out; show t < 64; omega
              have k4 : (t : Int) < 4 := Int.ofNat_lt.2 HT.out
              have k5 : ¬ ((t : Int) < 0) := Int.not_lt.2 (Int.natCast_nonneg t)
              go_wp2_with fail
              go_quiet (first | (go_at_call 24; exact Calls.quiet_of_same ((count_any _ p _ _ (HN4.out _) t HT64.out).mono fun _ _ h => ⟨h.1, h.2.symm⟩)) | (go_at_call 25; exact Calls.quiet_of_same ((live_any _ p _ _ (HN4.out _)).mono fun _ _ h => ⟨h.1, h.2.symm⟩)))
              go_wp2_with fail
              clear hcq hlv t0 qc
              have HB5 := Lib.hid (HB4.out.drewN nq)
              go_roundw
              case rel =>
                repeat apply Exists.intro
                refine ⟨?r, rfl⟩
                exact ⟨i + 1, R4, S4, _, _, by go_num, H1.out, H2.out, HB5.out⟩
              case measure => simp [intOf]; have := H2.out; omega
          · skip
            go_wp2_with fail
            go_loopw [16, 17] (fun av bv wx => ∃ t : Nat, av = .int .i64 (sumQ S.count t) ∧ bv = .int .i64 t ∧ t ≤ 4 ∧ RoomB W wx p R S Q mb sv M i i) (fun _ bv _ => 4 - (intOf bv).toNat)
            case atStart => exact ⟨0, rfl, rfl, by decide, HB.out⟩
            case round =>
              obtain ⟨t, rfl, rfl, ht, hr⟩ := hrel
              have HC := Lib.hid hr
              clear hr
              by_cases h4 : t < 4
              · have k4 : (t : Int) < 4 := by omega
                have HT := Lib.hid h4
                have hs0 : IntKind.i64.wrap (sumQ S.count t + S.count t) = sumQ S.count (t + 1) := HC.out.tame.wrap HT.out
                clear h4 ht
                go_wp2_with fail
                (with_reducible refine (count_any wr p R S HC.out.arm t (by have := HT.out; omega)).mono ?_)
                rintro e wq ⟨rfl, rfl⟩
                go_wp2_with fail
                go_roundw
                case rel => exact ⟨t + 1, rfl, by go_num, HT.out, HC.out⟩
                case measure => simp [intOf]; have := HT.out; omega
              · obtain rfl : t = 4 := by omega
                clear h4 ht
                go_wp2_with fail
                (with_reducible refine (sweep_any wr p R S HC.out.arm HC.out.tame.inv HC.out.tame.live).mono ?_)
                rintro e w5 ⟨n, S5, R5, rfl, hs, hA5, hS5⟩
                have HA5 := Lib.hid hA5
                have HB5 : Hid (Below W.heap.size W w5) := HC.out.below.trans (hS5.mod.below HC.out.below.size fun b hb ho => absurd (HC.out.own b ho) (by omega))
                have hl1 : S5.live ≤ sumQ S.count 4 := HC.out.tame.swept hs
                have hl2 : sumQ S.count 4 ≤ sumQ Q 4 := (HC.out.tame.sums 4 (Nat.le_refl _)).2.1
                clear hs hA5 hS5
                go_wp2_with fail
                (with_reducible refine (live_any w5 p R5 S5 HA5.out).mono ?_)
                rintro e wq ⟨rfl, rfl⟩
                go_wp2_with fail
                go_returns
                all_goals exact ⟨rfl, HB5.out⟩
        · skip
          go_wp2_with fail
          go_loopw [16, 17] (fun av bv wx => ∃ t : Nat, av = .int .i64 (sumQ S.count t) ∧ bv = .int .i64 t ∧ t ≤ 4 ∧ RoomB W wx p R S Q mb sv M i i) (fun _ bv _ => 4 - (intOf bv).toNat)
          case atStart => exact ⟨0, rfl, rfl, by decide, HB.out⟩
          case round =>
            obtain ⟨t, rfl, rfl, ht, hr⟩ := hrel
            have HC := Lib.hid hr
            clear hr
            by_cases h4 : t < 4
            · have k4 : (t : Int) < 4 := by omega
              have HT := Lib.hid h4
              have hs0 : IntKind.i64.wrap (sumQ S.count t + S.count t) = sumQ S.count (t + 1) := HC.out.tame.wrap HT.out
              clear h4 ht
              go_wp2_with fail
              (with_reducible refine (count_any wr p R S HC.out.arm t (by have := HT.out; omega)).mono ?_)
              rintro e wq ⟨rfl, rfl⟩
              go_wp2_with fail
              go_roundw
              case rel => exact ⟨t + 1, rfl, by go_num, HT.out, HC.out⟩
              case measure => simp [intOf]; have := HT.out; omega
            · obtain rfl : t = 4 := by omega
              clear h4 ht
              go_wp2_with fail
              (with_reducible refine (sweep_any wr p R S HC.out.arm HC.out.tame.inv HC.out.tame.live).mono ?_)
              rintro e w5 ⟨n, S5, R5, rfl, hs, hA5, hS5⟩
              have HA5 := Lib.hid hA5
              have HB5 : Hid (Below W.heap.size W w5) := HC.out.below.trans (hS5.mod.below HC.out.below.size fun b hb ho => absurd (HC.out.own b ho) (by omega))
              have hl1 : S5.live ≤ sumQ S.count 4 := HC.out.tame.swept hs
              have hl2 : sumQ S.count 4 ≤ sumQ Q 4 := (HC.out.tame.sums 4 (Nat.le_refl _)).2.1
              clear hs hA5 hS5
              go_wp2_with fail
              (with_reducible refine (live_any w5 p R5 S5 HA5.out).mono ?_)
              rintro e wq ⟨rfl, rfl⟩
              go_wp2_with fail
              go_returns
              all_goals exact ⟨rfl, HB5.out⟩
end Go.Proofs.Ytfoipadgicjcaaa
