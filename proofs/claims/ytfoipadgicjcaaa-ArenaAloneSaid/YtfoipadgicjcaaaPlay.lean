/- lifelodgekeep: played. -/
import Derived.Test.YtfoipadgicjcaaaPlayS
import Derived.Deep.QuietTactic
import Derived.BigQuiet
import Derived.Deep.CutBlock
import Derived.Deep.DeepCutAuto
namespace Go.Proofs.Ytfoipadgicjcaaa
open Go.RowKit

/-- What played gives: what one tenant alone is told. -/
def PlayPost (W : World) (f : Nat → DeedD) (me n : Nat) (e : Ending) (w' : World) : Prop :=
  ∃ tv : Value, e = .returned (.tuple #[tv, .bool true]) ∧ Sl w' IT 1 tv (aState f me n).2.length (intsV (aState f me n).2) ∧ (∀ b, sblk tv = some b → W.heap.size ≤ b) ∧ Below W.heap.size W w'
theorem kept6 {w w' : World} {p : Nat} {R R' : ArR} {db tb : Nat} {k n a0 a1 a2 a3 t : Value} (hd : Blk w db DT #[k, n, a0, a1, a2, a3]) (ht : Blk w tb IT #[t]) (hs : Step p R R' w w') (h1 : ∀ b, Own p R b → b ≠ db) (h2 : ∀ b, Own p R b → b ≠ tb) :
    w'.cell? ⟨db, 2, none⟩ = some a0 ∧ w'.cell? ⟨db, 3, none⟩ = some a1 ∧ w'.cell? ⟨db, 4, none⟩ = some a2 ∧ w'.cell? ⟨db, 5, none⟩ = some a3 ∧ w'.cell? ⟨tb, 0, none⟩ = some t ∧ Blk w' db DT #[k, n, a0, a1, a2, a3] ∧ Blk w' tb IT #[t] := by
  have g1 := hd.mod hs.mod fun ho => h1 _ ho rfl
  have g2 := ht.mod hs.mod fun ho => h2 _ ho rfl
  exact ⟨g1.cellS rfl, g1.cellS rfl, g1.cellS rfl, g1.cellS rfl, g2.cellS rfl, g1, g2⟩
theorem sl_one (w : World) (x : Int) : Sl (w.alloc (.cells #[.int .i64 x] IT)) IT 1 (.slice (some ⟨w.heap.size, 0, none⟩) 1 1) 1 (intsV [x]) :=
  ⟨rfl, _, 1, rfl, Nat.le_refl _, (by unfold maxLen; omega), (fun h => nomatch h), (fun a ha => by obtain rfl := Option.some.inj ha; exact ⟨_, rfl, Blk.new _ _ _, by simp, rfl⟩)⟩
theorem made0 {W wr w2 : World} {p : Nat} {R : ArR} {S : ArS} (hA : ArM wr p R S) (hO : ∀ b, Own p R b → W.heap.size ≤ b) (hB : Below W.heap.size W wr) (he : wr.alloc (.cells #[nilV, nilV, nilV, nilV] T4) = w2) :
    AlB W w2 p R S wr.heap.size (fun _ => nilV) (fun _ => []) nilV [] := by
  subst he
  refine ⟨hA.alloc _, ⟨Blk.new _ _ _, fun t _ => Sl.nil _ _ _, fun t t' _ _ _ b hb => by simp [nilV, sblk] at hb⟩, Sl.nil _ _ _, fun b hb ho => ?_, fun b hb => by simp [nilV, sblk] at hb, fun b hb => ?_, hO, fun b hb => by simp [nilV, sblk] at hb, hB.alloc hB.size _⟩
  · rcases hb with rfl | ⟨t, _, hb⟩
    · have := hA.own_lt ho; omega
    · simp [nilV, sblk] at hb
  · rcases hb with rfl | ⟨t, _, hb⟩
    · exact hB.size
    · simp [nilV, sblk] at hb

set_option maxRecDepth 100000 in
set_option maxHeartbeats 64000000 in
theorem played_any (W : World) (B : Nat) (hBW : B ≤ W.heap.size) (v : Value) (len : Nat) (f : Nat → DeedD) (hd : Deeds W B v len f) (hok : ∀ i, i < len → (f i).ok) (me : Nat) (hme : me < 4) (all : Bool) :
    Calls Try.prog 27 #[v, .int .i64 me, .bool all] W fun e w' => PlayPost W f me (min len 150) e w' := by
  obtain ⟨A, cap, rfl, hl, hD⟩ := hd
  have HD := Lib.hid hD
  have HL := Lib.hid hl
  have HOK := Lib.hid hok
  have HBW := Lib.hid hBW
  have HME := Lib.hid hme
  clear hl hD hok hBW hme
  go_enter Try.func27, Try.ntmps27
  go_wp2_with fail
  (with_reducible refine (begun_any W).mono ?_)
  rintro e w1 ⟨p, R, S, rfl, hA, hrel, hro, hli, had, hB, hO⟩
  have HA := Lib.hid hA
  have HREL := Lib.hid hrel
  have HRO := Lib.hid hro
  have HLI := Lib.hid hli
  have HAD := Lib.hid had
  have HB := Lib.hid hB
  have HO := Lib.hid hO
  clear hA hrel hro hli had hB hO
  go_wp2_with fail
  go_loopw [10] (fun bv wx => ∃ (t : Nat) (qu : Nat → Int), bv = .int .i64 t ∧ t ≤ 4 ∧ ArM wx p R { S with quota := qu } ∧ (∀ k, k < t → qu k = 30) ∧ Below W.heap.size W wx) (fun bv _ => 4 - (intOf bv).toNat)
  case atStart => exact ⟨0, S.quota, rfl, by decide, HA.out, fun k hk => absurd hk (Nat.not_lt_zero k), HB.out⟩
  case round =>
    obtain ⟨t, qu, rfl, ht, hr, hqu, hb⟩ := hrel
    have HR := Lib.hid hr
    have HQU := Lib.hid hqu
    have HBX := Lib.hid hb
    clear hr hqu hb
    by_cases h4 : t < 4
    · have k4 : (t : Int) < 4 := Int.ofNat_lt.2 h4
      have HT := Lib.hid h4
      clear h4 ht
      go_wp2_with fail
      have hlm : (0 : Int) ≤ 30 ∧ (30 : Int) ≤ ({ S with quota := qu } : ArS).room := ⟨by decide, by show (30 : Int) ≤ S.room; rw [HRO.out]; decide⟩
      (with_reducible refine (limit_any wr p R _ HR.out t (by have := HT.out; omega) 30 hlm).mono ?_)
      rintro e w2 ⟨rfl, hA3, hS3⟩
      have HA3 : Hid (ArM w2 p R { S with quota := upd qu t 30 }) := hA3
      have HB3 : Hid (Below W.heap.size W w2) := HBX.out.trans (hS3.mod.below HBX.out.size fun b hb ho => absurd (HO.out b ho) (by omega))
      have HQ3 : Hid (∀ k, k < t + 1 → upd qu t 30 k = 30) := fun k hk => by
        by_cases e : k = t
        · subst e; rw [upd_same]
        · rw [upd_ne _ _ e]; exact HQU.out k (by omega)
      clear hlm hA3 hS3
      go_wp2_with fail
      go_roundw
      case rel => exact ⟨t + 1, _, by go_num, HT.out, HA3.out, HQ3.out, HB3.out⟩
      case measure => simp [intOf]; have := HT.out; omega
    · obtain rfl : t = 4 := by omega
      clear ht h4
      go_wp2_with fail
      obtain ⟨w2, hw2⟩ : ∃ w2, wr.alloc (.cells #[nilV, nilV, nilV, nilV] T4) = w2 := ⟨_, rfl⟩
      have HB2 : Hid (AlB W w2 p R { S with quota := qu } wr.heap.size (fun _ => nilV) (fun _ => []) nilV []) := made0 HR.out HO.out HBX.out hw2
      have HR2 : Hid (AlR { S with quota := qu } (fun _ => []) (TT f me all 0) 0) := AlR.start HREL.out HRO.out HLI.out HAD.out HQU.out
      have hw3 : World.alloc wr (.cells #[.slice none 0 0, .slice none 0 0, .slice none 0 0, .slice none 0 0] T4) = w2 := hw2
      rw [hw3]
      clear hw2 hw3
      generalize wr.heap.size = mb at *
      clear HR HQU HBX HO HA HREL HRO HLI HAD HB
      go_loopw [11, 13] (fun tv iv wx => ∃ (i : Nat) (R : ArR) (S : ArS) (sv : Nat → Value) (M : Nat → List Int), iv = .int .i64 i ∧ i ≤ len ∧ i ≤ 150 ∧ AlB W wx p R S mb sv M tv (aState f me i).2 ∧ AlR S M (TT f me all i) i) (fun _ iv _ => 150 - (intOf iv).toNat)
      case atStart => exact ⟨0, R, _, _, _, rfl, Nat.zero_le _, by decide, HB2.out, HR2.out⟩
      case round =>
        clear HB2 HR2
        obtain ⟨i, R, S, sv, M, rfl, hi, hi2, hr, hrr⟩ := hrel
        have HB := Lib.hid hr
        have HR := Lib.hid hrr
        clear hr hrr
        by_cases h1 : i < len
        · have k1 : (i : Int) < (len : Int) := Int.ofNat_lt.2 h1
          by_cases h2 : i < 150
          · have k2 : (i : Int) < 150 := by omega
            obtain ⟨b, off, rfl, hb, hc⟩ := HD.out (by omega)
            obtain ⟨e0, e1, e2, e3, e4, e5⟩ := hc i h1
            have hbw : ∀ j, wr.cell? ⟨b, j, none⟩ = W.cell? ⟨b, j, none⟩ := fun j => HB.out.below.cell (Nat.lt_of_lt_of_le hb HBW.out)
            rw [← hbw] at e0 e1 e2 e3 e4 e5
            have k0 : ¬ ((i : Int) < 0) := Int.not_lt.2 (Int.natCast_nonneg i)
            have H1 := Lib.hid h1
            have H2 := Lib.hid h2
            clear hc hbw hb h1 h2 hi hi2
            go_wp2_with fail
            obtain ⟨w2, hw2⟩ : ∃ w2, wr.alloc (.cells #[.int .i64 (f i).kind, .int .i64 (f i).tenant, .int .i64 (f i).a0, .int .i64 (f i).a1, .int .i64 (f i).a2, .int .i64 (f i).a3] DT) = w2 := ⟨_, rfl⟩
            have HB2 : Hid (AlB W w2 p R S mb sv M u11 (aState f me i).2) := by
              subst hw2; exact HB.out.still ((Mod.refl _ _).alloc _)
            have HD2 : Hid (Blk w2 wr.heap.size DT #[.int .i64 (f i).kind, .int .i64 (f i).tenant, .int .i64 (f i).a0, .int .i64 (f i).a1, .int .i64 (f i).a2, .int .i64 (f i).a3]) := by
              subst hw2; exact Blk.new _ _ _
            have HDM : Hid (∀ b, Own p R b ∨ OwnMd mb sv b ∨ sblk u11 = some b → b ≠ wr.heap.size) := fun b hb e => by
              subst e
              rcases hb with hb | hb | hb
              · exact absurd (HB.out.arm.own_lt hb) (Nat.lt_irrefl _)
              · exact absurd (HB.out.made.lt hb) (Nat.lt_irrefl _)
              · exact absurd (HB.out.told.lt hb).1 (Nat.lt_irrefl _)
            rw [hw2]
            clear hw2 e0 e1 e2 e3 e4 e5 HB
            generalize wr.heap.size = db at *
            obtain ⟨g0, g1, g2, g3, g4, g5⟩ := HOK.out i H1.out
            obtain ⟨t, ht, htn⟩ : ∃ t : Nat, t < 4 ∧ (f i).tenant % 4 = t := ⟨((f i).tenant % 4).toNat, by omega, by omega⟩
            have HSK : Hid (¬ (all = true ∨ t = me) → TT f me all (i + 1) = TT f me all i ∧ (aState f me (i + 1)).2 = (aState f me i).2) := TT_skip htn
            have HST : Hid ((all = true ∨ t = me) → TT f me all (i + 1) = upd (TT f me all i) t (aStepK (TT f me all i t) t (f i).kind (f i).a0 (f i).a1 (f i).a2 (f i).a3).1) := TT_step htn
            have HTO : Hid (t = me → (aState f me (i + 1)).2 = (aState f me i).2 ++ [(f i).kind, (aStepK (TT f me all i t) t (f i).kind (f i).a0 (f i).a1 (f i).a2 (f i).a3).2, ((aStepK (TT f me all i t) t (f i).kind (f i).a0 (f i).a1 (f i).a2 (f i).a3).1.ab.have_.length : Int)]) := fun e => by subst e; exact told_me htn
            have HTN : Hid (t ≠ me → (aState f me (i + 1)).2 = (aState f me i).2) := told_other htn
            generalize (f i).kind = kd at *
            generalize (f i).tenant = tn at *
            generalize (f i).a0 = a0 at *
            generalize (f i).a1 = a1 at *
            generalize (f i).a2 = a2 at *
            generalize (f i).a3 = a3 at *
            have HTL : Hid ((aState f me i).2.length ≤ 3 * i) := aState_len f me i
            generalize hT' : TT f me all (i + 1) = T' at *
            generalize TT f me all i = T at *
            generalize htold' : (aState f me (i + 1)).2 = told' at *
            generalize (aState f me i).2 = told at *
            have HTE := Lib.hid hT'
            have HTD := Lib.hid htold'
            clear hT' htold'
            have HG0 := Lib.hid g0
            have HG1 := Lib.hid g1
            have HG2 := Lib.hid g2
            have HG3 := Lib.hid g3
            have HG4 := Lib.hid g4
            have HG5 := Lib.hid g5
            obtain ⟨g1a, g1b⟩ := g1
            (with_reducible refine (spot_any tn 4 (by decide) (by decide) g1a g1b w2).mono ?_)
            clear g0 g1a g1b g2 g3 g4 g5
            rintro e wq ⟨rfl, rfl⟩
            rw [htn]
            have HT := Lib.hid ht
            clear ht htn
            obtain ⟨w3, hw3⟩ : ∃ w3, w2.alloc (.cells #[.int .i64 (t : Int)] IT) = w3 := ⟨_, rfl⟩
            have HB3 : Hid (AlB W w3 p R S mb sv M u11 told) := by
              subst hw3; exact HB2.out.still ((Mod.refl _ _).alloc _)
            have HD3 : Hid (Blk w3 db DT #[.int .i64 kd, .int .i64 tn, .int .i64 a0, .int .i64 a1, .int .i64 a2, .int .i64 a3]) := by
              subst hw3; exact HD2.out.alloc _
            have HT3 : Hid (Blk w3 w2.heap.size IT #[.int .i64 t]) := by
              subst hw3; exact Blk.new _ _ _
            have HTM : Hid (∀ b, Own p R b ∨ OwnMd mb sv b ∨ sblk u11 = some b ∨ b = db → b ≠ w2.heap.size) := fun b hb e => by
              subst e
              rcases hb with hb | hb | hb | hb
              · exact absurd (HB2.out.arm.own_lt hb) (Nat.lt_irrefl _)
              · exact absurd (HB2.out.made.lt hb) (Nat.lt_irrefl _)
              · exact absurd (HB2.out.told.lt hb).1 (Nat.lt_irrefl _)
              · have := HD2.out.lt; omega
            have HW3 := Lib.hid hw3
            have d0 : (w2.alloc (.cells #[.int .i64 (t : Int)] IT)).cell? ⟨db, 0, none⟩ = some (.int .i64 kd) := by rw [hw3]; exact HD3.out.cellS rfl
            clear hw3 HB2 HD2
            by_cases hskip : all = true ∨ t = me
            · go_upto_region 15 with fail
              rw [HW3.out]
              clear d0 HW3
              generalize w2.heap.size = tb at *
              go_cut [64] (fun s64 wx => s64 = .bool false ∧ wx = w3)
              case first =>
                have t0 : w3.cell? ⟨tb, 0, none⟩ = some (.int .i64 t) := HT3.out.cellS rfl
                rcases hskip with rfl | rfl
                · by_cases htm : t = me
                  · subst htm
                    go_wp2_with fail
                    go_meet
                    exact ⟨rfl, rfl⟩
                  · have n1 : ¬ ((t : Int) = (me : Int)) := fun e => htm (by omega)
                    go_wp2_with fail
                    go_meet
                    exact ⟨rfl, rfl⟩
                · go_wp2_with fail
                  go_meet
                  exact ⟨rfl, rfl⟩
              case rest =>
              obtain ⟨rfl, hwc⟩ := hcut
              rw [hwc]
              clear hwc wc
              have HSTE := Lib.hid (HST.out hskip)
              clear hskip HSK HST
              have d0 : w3.cell? ⟨db, 0, none⟩ = some (.int .i64 kd) := HD3.out.cellS rfl
              go_upto_block 4 with fail
              clear d0
              go_cut [17] (fun s17 w4 => ∃ (x : Int) (R4 : ArR) (S4 : ArS) (sv4 : Nat → Value) (M4 : Nat → List Int), s17 = .int .i64 x ∧ x = (aStepK (T t) t kd a0 a1 a2 a3).2 ∧ AlB W w4 p R4 S4 mb sv4 M4 u11 told ∧ AlR S4 M4 (upd T t (aStepK (T t) t kd a0 a1 a2 a3).1) (i + 1) ∧ Blk w4 tb IT #[.int .i64 t] ∧ Blk w4 db DT #[.int .i64 kd, .int .i64 tn, .int .i64 a0, .int .i64 a1, .int .i64 a2, .int .i64 a3])
              case first =>
                by_cases h1 : kd = 1
                · subst h1
                  as_aux_lemma =>
                  go_wp2_with fail
                  have d2 : w3.cell? ⟨db, 2, none⟩ = some (.int .i64 a0) := HD3.out.cellS rfl
                  have d3 : w3.cell? ⟨db, 3, none⟩ = some (.int .i64 a1) := HD3.out.cellS rfl
                  have d4 : w3.cell? ⟨db, 4, none⟩ = some (.int .i64 a2) := HD3.out.cellS rfl
                  have d5 : w3.cell? ⟨db, 5, none⟩ = some (.int .i64 a3) := HD3.out.cellS rfl
                  have t0 : w3.cell? ⟨tb, 0, none⟩ = some (.int .i64 t) := HT3.out.cellS rfl
                  have HB3 : Hid (AlB W w3.drew p R S mb sv M u11 told) := HB3.out.still (Mod.refl _ _).drew
                  have HD3 : Hid (Blk w3.drew db DT #[.int .i64 1, .int .i64 tn, .int .i64 a0, .int .i64 a1, .int .i64 a2, .int .i64 a3]) := HD3.out.drew
                  have HT3 : Hid (Blk w3.drew tb IT #[.int .i64 t]) := HT3.out.drew
                  have hid : ∀ a, i64r a → Calls Try.prog 48 #[.int .i64 a, .pointer (some ⟨mb, 0, none⟩), .pointer (some ⟨tb, 0, none⟩)] w3.drew fun e w' => e = .returned (.int .i64 (pickId (M t) a)) ∧ w3.drew = w' := by
                    intro a ha
                    have hl := HR.out.mlen t HT.out
                    have h2 := H2.out
                    exact playid_any _ a ha mb tb sv M HB3.out.made t HT.out (HT3.out.cellS rfl) (by omega)
                  have HC0 := Lib.hid (hid a0 HG2.out)
                  have HC1 := Lib.hid (hid a1 HG3.out)
                  have HC2 := Lib.hid (hid a2 HG4.out)
                  have HC3 := Lib.hid (hid a3 HG5.out)
                  have hal : (S.added t).length ≤ 1000000 := by have := HR.out.alen t HT.out; have := H2.out; omega
                  have HJ := Lib.hid (join_any w3.drew p R S HB3.out.arm HR.out.rel.inv.1 HR.out.rel.inv.2 t (by have := HT.out; omega) hal (pickId (M t) a0) (pickId (M t) a1) (pickId (M t) a2) (pickId (M t) a3))
                  have HJR : Hid (∀ r x S', JoinR S t (pickId (M t) a0) (pickId (M t) a1) (pickId (M t) a2) (pickId (M t) a3) r x S' → x = (aStepK (T t) t 1 a0 a1 a2 a3).2 ∧ AlR S' (upd M t (if x = 0 then M t ++ [r] else M t)) (upd T t (aStepK (T t) t 1 a0 a1 a2 a3).1) (i + 1) ∧ (x = 0 → i64r r)) := fun r x S' hj => by
                    rw [aK1]; exact HR.out.join HT.out (by have := H2.out; omega) hj
                  clear hid hal
                  generalize pickId (M t) a0 = x0 at *
                  generalize pickId (M t) a1 = x1 at *
                  generalize pickId (M t) a2 = x2 at *
                  generalize pickId (M t) a3 = x3 at *
                  go_region_held3 (fun w' => w'.cell? ⟨db, 2, none⟩ = some (.int .i64 a0) ∧ w'.cell? ⟨db, 3, none⟩ = some (.int .i64 a1) ∧ w'.cell? ⟨db, 4, none⟩ = some (.int .i64 a2) ∧ w'.cell? ⟨db, 5, none⟩ = some (.int .i64 a3) ∧ w'.cell? ⟨tb, 0, none⟩ = some (.int .i64 t)) (first | exact ⟨d2, d3, d4, d5, t0⟩ | exact ⟨f2, f3, f4, f5, t5⟩)
                    (first
                      | (go_at_call_of 48 (Value.int .i64 a0); refine HC0.out.mono ?_; rintro e w' ⟨rfl, rfl⟩)
                      | (go_at_call_of 48 (Value.int .i64 a1); refine HC1.out.mono ?_; rintro e w' ⟨rfl, rfl⟩)
                      | (go_at_call_of 48 (Value.int .i64 a2); refine HC2.out.mono ?_; rintro e w' ⟨rfl, rfl⟩)
                      | (go_at_call_of 48 (Value.int .i64 a3); refine HC3.out.mono ?_; rintro e w' ⟨rfl, rfl⟩)
                      | (go_at_call 19; refine HJ.out.mono ?_; rintro e w5 ⟨r, x, S5, R5, rfl, hj, hA5, hS5⟩; obtain ⟨f2, f3, f4, f5, t5, gD, gT⟩ := kept6 HD3.out HT3.out hS5 (fun b hb => HDM.out b (.inl hb)) (fun b hb => HTM.out b (.inl hb))))
                  obtain ⟨hx5, hR5, hrr⟩ := HJR.out r x S5 hj
                  have HB5 : Hid (AlB W w5 p R5 S5 mb sv M u11 told) := HB3.out.step hS5 hA5
                  have HT5 := Lib.hid gT
                  have HD5 := Lib.hid gD
                  have HRR := Lib.hid hrr
                  have HX5 := Lib.hid hx5
                  have HR5 := Lib.hid hR5
                  clear hj hA5 hS5 hR5 hx5 hrr f2 f3 f4 f5 t5 d2 d3 d4 d5 t0 HC0 HC1 HC2 HC3 HJ HJR HB3 HT3 HD3 gT gD
                  by_cases hx : x = 0
                  · subst hx
                    rw [if_pos rfl] at HR5
                    obtain ⟨A, mcap, hsv, _, _⟩ := (HB5.out.made.sl t HT.out).form
                    have HSV := Lib.hid hsv
                    have c5 := HB5.out.made.at HT.out
                    have t5 : w5.cell? ⟨tb, 0, none⟩ = some (.int .i64 t) := HT5.out.cellS rfl
                    have HSL := Lib.hid (HB5.out.made.sl t HT.out)
                    rw [hsv] at c5 HSL
                    have hml := HR.out.mlen t HT.out
                    have HNE : Hid (∀ b, OwnMd mb sv b → b ≠ tb) := fun b hb => HTM.out b (.inr (.inl hb))
                    have HNE2 : Hid (∀ b, OwnMd mb sv b → b ≠ db) := fun b hb => HDM.out b (.inr (.inl hb))
                    have pm : (w5.alloc (.cells #[.int .i64 r] IT)).cell? ⟨mb, t, none⟩ = some (.slice A (M t).length mcap) := (World.cell?_alloc_lt w5 _ ⟨mb, t, none⟩ HB5.out.made.blk.lt).trans c5
                    have pt : (w5.alloc (.cells #[.int .i64 r] IT)).cell? ⟨tb, 0, none⟩ = some (.int .i64 t) := (World.cell?_alloc_lt w5 _ ⟨tb, 0, none⟩ HT5.out.lt).trans t5
                    generalize hm : (M t).length = m at *
                    have HML := Lib.hid hm
                    have HMI := Lib.hid hml
                    have HX := Lib.hid (Rd.fresh w5 IT #[.int .i64 r] 1 1 rfl (by unfold maxLen; omega))
                    have k4 : (t : Int) < 4 := Int.ofNat_lt.2 HT.out
                    have k5 : ¬ ((t : Int) < 0) := Int.not_lt.2 (Int.natCast_nonneg t)
                    clear hm hsv hml
                    go_wp2_with fail
                    go_region_law
                      ((refine step_append_sl _ rfl (.tmp 104) (.tmp 106) 28 rfl IT (.int .i64 0) 1 8 Try.underlying28 Try.infoInt rfl (by decide) rfl (by exact HSL.out.alloc _) rfl (by exact HX.out) (by intro u hu; simp at hu; subst hu; rfl) (by have := HMI.out; have := H2.out; omega) (by have := HMI.out; have := H2.out; unfold maxLen; omega) ?_; intro v' w6 hs6 hm6 hd6; obtain ⟨c6, f6, t6, ht7, hB7⟩ := HB5.out.appEnd HT.out HSV.out HT5.out HNE.out hm6.undrew hs6 HML.out rfl hd6; have hd7 := HD5.out.appd HB5.out.made HT.out HSV.out HNE2.out hm6.undrew v'; obtain ⟨A', cap', rfl, g1, g2⟩ := hs6.form))
                    all_goals go_wp2_with fail
                    all_goals go_meet
                    all_goals exact ⟨0, R5, S5, _, _, rfl, HX5.out, hB7, HR5.out, ht7, hd7⟩
                  · have hxb : (x == 0) = false := by rw [beq_eq_false_iff_ne]; exact hx
                    rw [if_neg hx, upd_id] at HR5
                    go_wp2_with fail
                    go_meet
                    exact ⟨x, R5, S5, _, _, rfl, HX5.out, HB5.out, HR5.out, HT5.out, HD5.out⟩
                by_cases h2 : kd = 2
                · subst h2
                  as_aux_lemma =>
                  have d2 : w3.cell? ⟨db, 2, none⟩ = some (.int .i64 a0) := HD3.out.cellS rfl
                  have d3 : w3.cell? ⟨db, 3, none⟩ = some (.int .i64 a1) := HD3.out.cellS rfl
                  have d4 : w3.cell? ⟨db, 4, none⟩ = some (.int .i64 a2) := HD3.out.cellS rfl
                  have d5 : w3.cell? ⟨db, 5, none⟩ = some (.int .i64 a3) := HD3.out.cellS rfl
                  have t0 : w3.cell? ⟨tb, 0, none⟩ = some (.int .i64 t) := HT3.out.cellS rfl
                  have HA3 := HB3
                  have HD7 := HD3
                  have HT7 := HT3
                  have hid : ∀ a, i64r a → Calls Try.prog 48 #[.int .i64 a, .pointer (some ⟨mb, 0, none⟩), .pointer (some ⟨tb, 0, none⟩)] w3 fun e w' => e = .returned (.int .i64 (pickId (M t) a)) ∧ w3 = w' := by
                    intro a ha
                    have hl := HR.out.mlen t HT.out
                    have h2 := H2.out
                    exact playid_any _ a ha mb tb sv M HB3.out.made t HT.out (HT3.out.cellS rfl) (by omega)
                  have HC0 := Lib.hid (hid a0 HG2.out)
                  have HB3 : Hid (AlB W w3.drew p R S mb sv M u11 told) := HB3.out.still (Mod.refl _ _).drew
                  have HD3 : Hid (Blk w3.drew db DT #[.int .i64 2, .int .i64 tn, .int .i64 a0, .int .i64 a1, .int .i64 a2, .int .i64 a3]) := HD3.out.drew
                  have HT3 : Hid (Blk w3.drew tb IT #[.int .i64 t]) := HT3.out.drew
                  have hal : (S.added t).length ≤ 1000000 := by have := HR.out.alen t HT.out; have := H2.out; omega
                  have hti : i64r (t : Int) := by have := HT.out; exact ⟨by omega, by omega⟩
                  have hji : i64r (a1 % 3) := ⟨by omega, by omega⟩
                  obtain ⟨g3a, g3b⟩ := HG3.out
                  have HSP := Lib.hid (spot_any a1 3 (by decide) (by decide) g3a g3b w3.drew)
                  have HJ := Lib.hid (note_any w3.drew p R S HB3.out.arm HR.out.rel.inv.1 HR.out.rel.inv.2 t (by have := HT.out; omega) hal (pickId (M t) a0) t (a1 % 3) (pickId (M t) a0) hti hji)
                  have HJR : Hid (∀ x S', NoteR S t (pickId (M t) a0) t (a1 % 3) (pickId (M t) a0) x S' → x = (aStepK (T t) t 2 a0 a1 a2 a3).2 ∧ AlR S' M (upd T t (aStepK (T t) t 2 a0 a1 a2 a3).1) (i + 1)) := fun x S' hj => by
                    rw [aK2]; exact HR.out.note HT.out (by have := H2.out; omega) hji hj
                  clear hid hal hti hji g3a g3b
                  generalize pickId (M t) a0 = x0 at *
                  generalize a1 % 3 = j0 at *
                  go_wp2_with fail
                  (with_reducible refine HC0.out.mono ?_)
                  rintro e wq ⟨rfl, rfl⟩
                  go_wp2_with fail
                  go_region_held3 (fun w' => w'.cell? ⟨db, 2, none⟩ = some (.int .i64 a0) ∧ w'.cell? ⟨db, 3, none⟩ = some (.int .i64 a1) ∧ w'.cell? ⟨db, 4, none⟩ = some (.int .i64 a2) ∧ w'.cell? ⟨db, 5, none⟩ = some (.int .i64 a3) ∧ w'.cell? ⟨tb, 0, none⟩ = some (.int .i64 t)) (first | exact ⟨d2, d3, d4, d5, t0⟩ | exact ⟨f2, f3, f4, f5, t5⟩)
                    (first
                      | (go_at_call 12; refine HSP.out.mono ?_; rintro e w' ⟨rfl, rfl⟩)
                      | (go_at_call 20; refine HJ.out.mono ?_; rintro e w5 ⟨x, S5, R5, rfl, hj, hA5, hS5⟩; obtain ⟨f2, f3, f4, f5, t5, gD, gT⟩ := kept6 HD3.out HT3.out hS5 (fun b hb => HDM.out b (.inl hb)) (fun b hb => HTM.out b (.inl hb))))
                  obtain ⟨hx5, hR5⟩ := HJR.out x S5 hj
                  have HB5 : Hid (AlB W w5 p R5 S5 mb sv M u11 told) := HB3.out.step hS5 hA5
                  have HT5 := Lib.hid gT
                  have HD5 := Lib.hid gD
                  have HX5 := Lib.hid hx5
                  have HR5 := Lib.hid hR5
                  clear hj hA5 hS5 hx5 hR5 f2 f3 f4 f5 t5 d2 d3 d4 d5 t0 HC0 HJ HJR HSP HB3 HT3 HD3 gT gD HA3 HD7 HT7
                  go_wp2_with fail
                  go_meet
                  exact ⟨x, R5, S5, _, _, rfl, HX5.out, HB5.out, HR5.out, HT5.out, HD5.out⟩
                by_cases h3 : kd = 3
                · subst h3
                  as_aux_lemma =>
                  have t0 : w3.cell? ⟨tb, 0, none⟩ = some (.int .i64 t) := HT3.out.cellS rfl
                  go_wp2_with fail
                  (with_reducible refine (mark_any w3 p R S HB3.out.arm t (by have := HT.out; omega)).mono ?_)
                  rintro e w5 ⟨rfl, hA5, hS5⟩
                  obtain ⟨f2, f3, f4, f5, t5, gD, gT⟩ := kept6 HD3.out HT3.out hS5 (fun b hb => HDM.out b (.inl hb)) (fun b hb => HTM.out b (.inl hb))
                  have HT5 := Lib.hid gT
                  have HD5 := Lib.hid gD
                  have HB5 := Lib.hid (HB3.out.step hS5 hA5)
                  have HR5 : Hid (AlR { S with added := upd S.added t [] } M (upd T t (aStepK (T t) t 3 a0 a1 a2 a3).1) (i + 1)) := by
                    show AlR _ _ _ _
                    rw [aK3]; exact HR.out.mark HT.out
                  clear hA5 hS5 f2 f3 f4 f5 t5 gD gT
                  go_wp2_with fail
                  go_meet
                  exact ⟨-1, _, _, _, _, rfl, by rw [aK3], HB5.out, HR5.out, HT5.out, HD5.out⟩
                by_cases h45 : kd = 4 ∨ kd = 5
                · skip
                  have n1 : ¬ kd = 1 := h1
                  have n2 : ¬ kd = 2 := h2
                  have n3 : ¬ kd = 3 := h3
                  have e1 : (kd == 1) = false := by rw [beq_eq_false_iff_ne]; exact h1
                  have e2 : (kd == 2) = false := by rw [beq_eq_false_iff_ne]; exact h2
                  have e3 : (kd == 3) = false := by rw [beq_eq_false_iff_ne]; exact h3
                  go_upto_if 132 with fail
                  go_cut [132] (fun s wx => s = .bool true ∧ wx = w3)
                  case first =>
                    rcases h45 with rfl | rfl
                    · go_wp2_with fail
                      go_meet
                      exact ⟨rfl, rfl⟩
                    · go_wp2_with fail
                      go_meet
                      exact ⟨rfl, rfl⟩
                  case rest =>
                  obtain ⟨rfl, hwc⟩ := hcut
                  rw [hwc]
                  clear hwc wc
                  have d0 : w3.cell? ⟨db, 0, none⟩ = some (.int .i64 kd) := HD3.out.cellS rfl
                  go_upto_if 137 with fail
                  clear d0
                  go_cut [17] (fun s17 w4 => ∃ (x : Int) (R4 : ArR) (S4 : ArS), s17 = .int .i64 x ∧ x = (aStepK (T t) t kd a0 a1 a2 a3).2 ∧ AlB W w4 p R4 S4 mb sv M u11 told ∧ AlR S4 (upd M t ((M t).filter fun id => ownsB S4 t id 0)) (upd T t (aStepK (T t) t kd a0 a1 a2 a3).1) (i + 1) ∧ Blk w4 tb IT #[.int .i64 t] ∧ Blk w4 db DT #[.int .i64 kd, .int .i64 tn, .int .i64 a0, .int .i64 a1, .int .i64 a2, .int .i64 a3])
                  case first =>
                    rcases h45 with rfl | rfl
                    · skip
                      as_aux_lemma =>
                      have t0 : w3.cell? ⟨tb, 0, none⟩ = some (.int .i64 t) := HT3.out.cellS rfl
                      go_wp2_with fail
                      (with_reducible refine (undo_any w3 p R S HB3.out.arm HR.out.rel.inv.1 t (by have := HT.out; omega)).mono ?_)
                      rintro e w5 ⟨rfl, hA5, hS5⟩
                      obtain ⟨f2, f3, f4, f5, t5, gD, gT⟩ := kept6 HD3.out HT3.out hS5 (fun b hb => HDM.out b (.inl hb)) (fun b hb => HTM.out b (.inl hb))
                      obtain ⟨hR5, hx5⟩ := HR.out.undo HT.out
                      have HT5 := Lib.hid gT
                      have HD5 := Lib.hid gD
                      have HB5 := Lib.hid (HB3.out.step hS5 hA5)
                      have HR5 := Lib.hid hR5
                      have HX5 := Lib.hid hx5
                      clear hA5 hS5 f2 f3 f4 f5 t5 gD gT hR5 hx5
                      go_wp2_with fail
                      go_meet
                      exact ⟨_, _, _, rfl, by rw [aK4]; exact HX5.out, HB5.out, by rw [aK4]; exact HR5.out, HT5.out, HD5.out⟩
                    · skip
                      as_aux_lemma =>
                      have HA6 : Hid (∀ x : Int, AlB W (w3.alloc (.cells #[.int .i64 x] IT)).drew p R S mb sv M u11 told) := fun x => HB3.out.still ((Mod.refl _ _).alloc _).drew
                      have HD6 : Hid (∀ x : Int, Blk (w3.alloc (.cells #[.int .i64 x] IT)).drew db DT #[.int .i64 5, .int .i64 tn, .int .i64 a0, .int .i64 a1, .int .i64 a2, .int .i64 a3]) := fun x => (HD3.out.alloc _).drew
                      have HT6 : Hid (∀ x : Int, Blk (w3.alloc (.cells #[.int .i64 x] IT)).drew tb IT #[.int .i64 t]) := fun x => (HT3.out.alloc _).drew
                      go_wp2_with fail
                      have d2 : w3.cell? ⟨db, 2, none⟩ = some (.int .i64 a0) := HD3.out.cellS rfl
                      have d3 : w3.cell? ⟨db, 3, none⟩ = some (.int .i64 a1) := HD3.out.cellS rfl
                      have d4 : w3.cell? ⟨db, 4, none⟩ = some (.int .i64 a2) := HD3.out.cellS rfl
                      have d5 : w3.cell? ⟨db, 5, none⟩ = some (.int .i64 a3) := HD3.out.cellS rfl
                      have t0 : w3.cell? ⟨tb, 0, none⟩ = some (.int .i64 t) := HT3.out.cellS rfl
                      have HB3 : Hid (AlB W w3.drew p R S mb sv M u11 told) := HB3.out.still (Mod.refl _ _).drew
                      have HD3 : Hid (Blk w3.drew db DT #[.int .i64 5, .int .i64 tn, .int .i64 a0, .int .i64 a1, .int .i64 a2, .int .i64 a3]) := HD3.out.drew
                      have HT3 : Hid (Blk w3.drew tb IT #[.int .i64 t]) := HT3.out.drew
                      have hid : ∀ a, i64r a → Calls Try.prog 48 #[.int .i64 a, .pointer (some ⟨mb, 0, none⟩), .pointer (some ⟨tb, 0, none⟩)] w3.drew fun e w' => e = .returned (.int .i64 (pickId (M t) a)) ∧ w3.drew = w' := by
                        intro a ha
                        have hl := HR.out.mlen t HT.out
                        have h2 := H2.out
                        exact playid_any _ a ha mb tb sv M HB3.out.made t HT.out (HT3.out.cellS rfl) (by omega)
                      have HC0 := Lib.hid (hid a0 HG2.out)
                      have hpk := HR.out.rel.mrng HT.out
                      have hpi := pickId_rng hpk (by have := HR.out.mlen t HT.out; have := H2.out; omega) a0
                      have HCR : Hid (∀ S', CleanR S t [pickId (M t) a0] S' → AlR S' (upd M t ((M t).filter fun id => ownsB S' t id 0)) (upd T t (aStepK (T t) t 5 a0 a1 a2 a3).1) (i + 1) ∧ S.count t - S'.count t = (aStepK (T t) t 5 a0 a1 a2 a3).2) := fun S' hc => by
                        rw [aK5]; exact HR.out.clean HT.out hc
                      generalize pickId (M t) a0 = x0 at *
                      have hcl := clean_any (w3.alloc (.cells #[.int .i64 x0] IT)).drew p R S (HA6.out x0).arm HR.out.rel.inv.1 t (by have := HT.out; omega) _ 1 [x0] (sl_one w3 x0).drew (by decide) (by intro y hy; rw [List.mem_singleton] at hy; subst hy; exact hpi)
                      have HJ := Lib.hid hcl
                      have d6 := HD6.out x0
                      have t6 := (HT6.out x0).cellS (i := 0) rfl
                      have f2 := d6.cellS (i := 2) rfl
                      have f3 := d6.cellS (i := 3) rfl
                      have f4 := d6.cellS (i := 4) rfl
                      have f5 := d6.cellS (i := 5) rfl
                      clear hid hcl d6 hpk hpi
                      go_region_held3 (fun w' => w'.cell? ⟨db, 2, none⟩ = some (.int .i64 a0) ∧ w'.cell? ⟨db, 3, none⟩ = some (.int .i64 a1) ∧ w'.cell? ⟨db, 4, none⟩ = some (.int .i64 a2) ∧ w'.cell? ⟨db, 5, none⟩ = some (.int .i64 a3) ∧ w'.cell? ⟨tb, 0, none⟩ = some (.int .i64 t)) (first | exact ⟨d2, d3, d4, d5, t0⟩ | exact ⟨f2, f3, f4, f5, t6⟩ | exact ⟨n2, n3, n4, n5, n0⟩)
                        (first
                          | (go_at_call_of 48 (Value.int .i64 a0); refine HC0.out.mono ?_; rintro e w' ⟨rfl, rfl⟩)
                          | (go_at_call 23; refine HJ.out.mono ?_; rintro e w5 ⟨S5, R5, rfl, hj, hA5, hS5⟩; obtain ⟨n2, n3, n4, n5, n0, gD, gT⟩ := kept6 (HD6.out x0) (HT6.out x0) hS5 (fun b hb => HDM.out b (.inl hb)) (fun b hb => HTM.out b (.inl hb))))
                      have HB5 := Lib.hid ((HA6.out x0).step hS5 hA5)
                      obtain ⟨hR5, hx5⟩ := HCR.out S5 hj
                      have HT5 := Lib.hid gT
                      have HD5 := Lib.hid gD
                      have HR5 := Lib.hid hR5
                      have HX5 := Lib.hid hx5
                      clear hj hA5 hS5 f2 f3 f4 f5 t6 d2 d3 d4 d5 t0 n2 n3 n4 n5 n0 gT gD hR5 hx5
                      go_wp2_with fail
                      go_meet
                      exact ⟨_, _, _, rfl, HX5.out, HB5.out, HR5.out, HT5.out, HD5.out⟩
                  case rest =>
                    as_aux_lemma =>
                    obtain ⟨x, R5, S5, rfl, hx5, hB5, hR5, hT5, hD5⟩ := hcut
                    generalize wc = w5 at *
                    have HB5 := Lib.hid hB5
                    have HR5 := Lib.hid hR5
                    have HX5 := Lib.hid hx5
                    have HT5 := Lib.hid hT5
                    have HD5 := Lib.hid hD5
                    have t0 : w5.cell? ⟨tb, 0, none⟩ = some (.int .i64 t) := HT5.out.cellS rfl
                    obtain ⟨A, mcap, hsv, _, _⟩ := (HB5.out.made.sl t HT.out).form
                    have c5 := HB5.out.made.at HT.out
                    have HSL := Lib.hid (HB5.out.made.sl t HT.out)
                    rw [hsv] at c5 HSL
                    have hml := HR.out.mlen t HT.out
                    have HIN := Lib.hid HR5.out.rel.inv.1
                    generalize hm : (M t).length = m at *
                    have HML := Lib.hid hm
                    have HMI := Lib.hid hml
                    have k4 : (t : Int) < 4 := Int.ofNat_lt.2 HT.out
                    have k5 : ¬ ((t : Int) < 0) := Int.not_lt.2 (Int.natCast_nonneg t)
                    clear hx5 hB5 hR5 hT5 hD5 hm hsv hml
                    go_wp2_with fail
                    go_loopw [21, 154] (fun sv' kv wx => ∃ k : Nat, kv = .int .i64 k ∧ k ≤ m ∧ Sl wx IT 1 sv' (((M t).take k).filter fun id => ownsB S5 t id 0).length (intsV (((M t).take k).filter fun id => ownsB S5 t id 0)) ∧ (∀ b, sblk sv' = some b → w5.heap.size ≤ b) ∧ Below w5.heap.size w5 wx) (fun _ kv _ => m - (intOf kv).toNat)
                    case atStart => exact ⟨0, rfl, Nat.zero_le _, Sl.nil _ _ _, (fun b hb => by simp [sblk] at hb), Below.refl _ _⟩
                    case round =>
                      obtain ⟨k, rfl, hk, hs, hf, hb⟩ := hrel
                      have hmod : Mod (fun _ => False) w5 wr := Mod.of_below_all hb
                      have HMD := Lib.hid hmod
                      have HS := Lib.hid hs
                      have HF := Lib.hid hf
                      have HBX := Lib.hid hb
                      have HA := Lib.hid (HB5.out.arm.keep hmod fun _ _ hf => hf)
                      have tw : wr.cell? ⟨tb, 0, none⟩ = some (.int .i64 t) := (HT5.out.mod hmod fun hf => hf).cellS rfl
                      by_cases hkm : k < m
                      · obtain ⟨b', off', cap', hA, hc1, hc2, hlt2, hcell, hfr, _⟩ := (HSL.out.mod hmod fun _ _ hf => hf).at (by omega)
                        cases hA
                        obtain ⟨y, hy⟩ : ∃ y, (M t)[k]? = some y := ⟨_, List.getElem?_eq_getElem (by rw [HML.out]; exact hkm)⟩
                        have hci : wr.cell? ⟨b', off' + k, none⟩ = some (.int .i64 y) := hcell k _ (by simp [intsV, hy])
                        have k6 : (k : Int) < (m : Int) := Int.ofNat_lt.2 hkm
                        have k7 : ¬ ((k : Int) < 0) := Int.not_lt.2 (Int.natCast_nonneg k)
                        have HWK : Hid (IntKind.i64.wrap ((k : Int) + 1) = (k : Int) + 1) := by show _ = _; have := HMI.out; have := H2.out; rw [IntKind.wrap_i64]; omega
                        have HKM := Lib.hid hkm
                        have HY := Lib.hid hy
                        have HLV := Lib.hid (level_any wr p R5 S5 HA.out HIN.out.len t (by have := HT.out; omega) y)
                        clear hmod hs hf hb hc1 hc2 hlt2 hcell hfr hy hkm hk
                        cases ho : ownsB S5 t y 0
                        · have HFI : Hid (((M t).take (k + 1)).filter (fun id => ownsB S5 t id 0) = ((M t).take k).filter (fun id => ownsB S5 t id 0)) := by
                            show _ = _
                            rw [List.take_add_one, HY.out]; simp [ho]
                          rw [ho] at HLV
                          clear ho
                          go_wp2_with fail
                          (with_reducible refine HLV.out.mono ?_)
                          rintro e wq ⟨rfl, rfl⟩
                          rw [if_neg Bool.false_ne_true]
                          have hwk := HWK.out
                          go_wp2_with fail
                          clear hwk
                          go_roundw
                          case rel => exact ⟨k + 1, by go_num, HKM.out, by rw [HFI.out]; exact HS.out, HF.out, HBX.out⟩
                          case measure => simp [intOf]; have := HKM.out; omega
                        · have HFI : Hid (((M t).take (k + 1)).filter (fun id => ownsB S5 t id 0) = ((M t).take k).filter (fun id => ownsB S5 t id 0) ++ [y]) := by
                            show _ = _
                            rw [List.take_add_one, HY.out]; simp [ho]
                          have hll : (((M t).take k).filter fun id => ownsB S5 t id 0).length ≤ k := by
                            have h1 := List.length_filter_le (fun id => ownsB S5 t id 0) ((M t).take k)
                            have h2 : ((M t).take k).length ≤ k := by rw [List.length_take]; exact Nat.min_le_left _ _
                            omega
                          generalize ((M t).take k).filter (fun id => ownsB S5 t id 0) = fl at *
                          generalize hfl : fl.length = fn at *
                          have HFL := Lib.hid hfl
                          have HLL := Lib.hid hll
                          rw [ho] at HLV
                          clear ho hfl hll
                          have HBD1 : Hid ((fn + 1) * 8 ≤ 140737488355328) := by show _ ≤ _; have := HLL.out; have := HKM.out; have := HMI.out; have := H2.out; omega
                          have HBD2 : Hid (fn + 1 ≤ maxLen) := by show _ ≤ _; have := HLL.out; have := HKM.out; have := HMI.out; have := H2.out; unfold maxLen; omega
                          have HX := Lib.hid (Rd.fresh wr IT #[.int .i64 y] 1 1 rfl (by unfold maxLen; omega))
                          go_wp2_with fail
                          (with_reducible refine HLV.out.mono ?_)
                          rintro e wq ⟨rfl, rfl⟩
                          rw [if_pos trivial]
                          have hwk := HWK.out
                          go_wp2_with (at_builtin; go_loud (refine wpList_append_sl _ rfl (.tmp 167) (.tmp 169) 28 rfl IT (.int .i64 0) 1 8 Try.underlying28 Try.infoInt rfl (by decide) rfl (by exact HS.out.alloc _) rfl (by exact HX.out) (by intro u hu; simp at hu; subst hu; rfl) (by exact HBD1.out) (by exact HBD2.out) ?_); intro v6 w6 hs6 hm6 hd6)
                          obtain ⟨g1, g2⟩ := fresh_of (w := w5) hm6 hd6 (HBX.out.alloc HBX.out.size _) HF.out
                          have HG1 := Lib.hid g1
                          have HG2' := Lib.hid g2
                          have HS6 : Hid (Sl w6 IT 1 v6 (fl ++ [y]).length (intsV (fl ++ [y]))) := by
                            show Sl _ _ _ _ _ _
                            have e : intsV (fl ++ [y]) = intsV fl ++ [.int .i64 y] := by simp [intsV]
                            rw [e, List.length_append, HFL.out]; exact hs6
                          clear g1 g2 hs6 hm6 hd6
                          go_wp2_with fail
                          clear hwk
                          go_roundw
                          case rel => exact ⟨k + 1, by go_num, HKM.out, by rw [HFI.out]; exact HS6.out, HG1.out, HG2'.out⟩
                          case measure => simp [intOf]; have := HKM.out; omega
                      · obtain rfl : k = m := by omega
                        have htk : (M t).take k = M t := List.take_of_length_le (by rw [HML.out]; exact Nat.le_refl _)
                        rw [htk] at hs
                        obtain ⟨A6, cap6, hu21, _, _⟩ := hs.form
                        subst hu21
                        obtain ⟨c6, f6, hB6⟩ := HB5.out.put HT.out (l := (M t).filter fun id => ownsB S5 t id 0) (hmod.mono fun _ _ h => h.elim) hs (by
                          cases A6 with
                          | none => exact .inl rfl
                          | some a => exact .inr (.inr ⟨_, rfl, hf _ rfl⟩))
                        have HB6 := Lib.hid hB6
                        have HT6 : Hid (∀ v, Blk (wr.setCell ⟨mb, t, none⟩ v) tb IT #[.int .i64 t]) := fun v => (HT5.out.mod hmod fun hf => hf).far (p := ⟨mb, t, none⟩) (fun e => HTM.out mb (.inr (.inl (.inl rfl))) e.symm) _
                        have HD6 : Hid (∀ v, Blk (wr.setCell ⟨mb, t, none⟩ v) db DT #[.int .i64 kd, .int .i64 tn, .int .i64 a0, .int .i64 a1, .int .i64 a2, .int .i64 a3]) := fun v => (HD5.out.mod hmod fun hf => hf).far (p := ⟨mb, t, none⟩) (fun e => HDM.out mb (.inr (.inl (.inl rfl))) e.symm) _
                        clear hmod hs hf hb hB6 htk
                        generalize hfn : ((M t).filter fun id => ownsB S5 t id 0).length = fn at *
                        clear hfn
                        go_wp2_with fail
                        go_meet
                        exact ⟨x, R5, S5, _, _, rfl, HX5.out, HB6.out, HR5.out, HT6.out _, HD6.out _⟩
                by_cases h6 : kd = 6
                · subst h6
                  as_aux_lemma =>
                  go_wp2_with fail
                  have d2 : w3.cell? ⟨db, 2, none⟩ = some (.int .i64 a0) := HD3.out.cellS rfl
                  have d3 : w3.cell? ⟨db, 3, none⟩ = some (.int .i64 a1) := HD3.out.cellS rfl
                  have d4 : w3.cell? ⟨db, 4, none⟩ = some (.int .i64 a2) := HD3.out.cellS rfl
                  have d5 : w3.cell? ⟨db, 5, none⟩ = some (.int .i64 a3) := HD3.out.cellS rfl
                  have t0 : w3.cell? ⟨tb, 0, none⟩ = some (.int .i64 t) := HT3.out.cellS rfl
                  have HB3 : Hid (AlB W w3.drew p R S mb sv M u11 told) := HB3.out.still (Mod.refl _ _).drew
                  have HD3 : Hid (Blk w3.drew db DT #[.int .i64 6, .int .i64 tn, .int .i64 a0, .int .i64 a1, .int .i64 a2, .int .i64 a3]) := HD3.out.drew
                  have HT3 : Hid (Blk w3.drew tb IT #[.int .i64 t]) := HT3.out.drew
                  have hid : ∀ a, i64r a → Calls Try.prog 48 #[.int .i64 a, .pointer (some ⟨mb, 0, none⟩), .pointer (some ⟨tb, 0, none⟩)] w3.drew fun e w' => e = .returned (.int .i64 (pickId (M t) a)) ∧ w3.drew = w' := by
                    intro a ha
                    have hl := HR.out.mlen t HT.out
                    have h2 := H2.out
                    exact playid_any _ a ha mb tb sv M HB3.out.made t HT.out (HT3.out.cellS rfl) (by omega)
                  have HC0 := Lib.hid (hid a0 HG2.out)
                  have hti : i64r (t : Int) := by have := HT.out; exact ⟨by omega, by omega⟩
                  have hji : i64r (a1 % 3) := ⟨by omega, by omega⟩
                  have hpk := HR.out.rel.pick HT.out a0
                  obtain ⟨g3a, g3b⟩ := HG3.out
                  have HSP := Lib.hid (spot_any a1 3 (by decide) (by decide) g3a g3b w3.drew)
                  have HJ := Lib.hid (recall_any w3.drew p R S HB3.out.arm HR.out.rel.inv.1 t (by have := HT.out; omega) (pickId (M t) a0) t (a1 % 3) (hpk.1.rng HR.out.rel.inv.1) hti hji)
                  have HJR := Lib.hid (HR.out.rel.recall HT.out (j := a1 % 3) hpk.1)
                  clear hid hti hji g3a g3b hpk
                  generalize pickId (M t) a0 = x0 at *
                  go_region_held3 (fun w' => w'.cell? ⟨db, 2, none⟩ = some (.int .i64 a0) ∧ w'.cell? ⟨db, 3, none⟩ = some (.int .i64 a1) ∧ w'.cell? ⟨db, 4, none⟩ = some (.int .i64 a2) ∧ w'.cell? ⟨db, 5, none⟩ = some (.int .i64 a3) ∧ w'.cell? ⟨tb, 0, none⟩ = some (.int .i64 t)) (first | exact ⟨d2, d3, d4, d5, t0⟩ | exact ⟨f2, f3, f4, f5, t5⟩)
                    (first
                      | (go_at_call 12; refine HSP.out.mono ?_; rintro e w' ⟨rfl, rfl⟩)
                      | (go_at_call_of 48 (Value.int .i64 a0); refine HC0.out.mono ?_; rintro e w' ⟨rfl, rfl⟩)
                      | (go_at_call 50; refine HJ.out.mono ?_; rintro e w5 ⟨vv, is, rfl, hj, hA5, hS5⟩; obtain ⟨f2, f3, f4, f5, t5, gD, gT⟩ := kept6 HD3.out HT3.out hS5 (fun b hb => HDM.out b (.inl hb)) (fun b hb => HTM.out b (.inl hb))))
                  have HB5 : Hid (AlB W w5 p R S mb sv M u11 told) := HB3.out.step hS5 hA5
                  have HT5 := Lib.hid gT
                  have HD5 := Lib.hid gD
                  have HJ5 := Lib.hid (hj.trans HJR.out)
                  have HR5 : Hid (AlR S M (upd T t (aStepK (T t) t 6 a0 a1 a2 a3).1) (i + 1)) := by
                    show AlR _ _ _ _
                    rw [aK6]; exact HR.out.same
                  clear hj hA5 hS5 f2 f3 f4 f5 t5 d2 d3 d4 d5 t0 HC0 HJ HJR HSP HB3 HT3 HD3 gT gD
                  cases is
                  · go_wp2_with fail
                    go_meet
                    exact ⟨-1, _, _, _, _, rfl, by rw [aK6]; show -1 = ite _ _ _; rw [if_neg (by simpa using HJ5.out)], HB5.out, HR5.out, HT5.out, HD5.out⟩
                  · go_wp2_with fail
                    go_meet
                    exact ⟨1, _, _, _, _, rfl, by rw [aK6]; show 1 = ite _ _ _; rw [if_pos (by simpa using HJ5.out)], HB5.out, HR5.out, HT5.out, HD5.out⟩
                as_aux_lemma =>
                have e1 : (kd == 1) = false := by rw [beq_eq_false_iff_ne]; exact h1
                have e2 : (kd == 2) = false := by rw [beq_eq_false_iff_ne]; exact h2
                have e3 : (kd == 3) = false := by rw [beq_eq_false_iff_ne]; exact h3
                have h4 : ¬ kd = 4 := fun e => h45 (.inl e)
                have h5 : ¬ kd = 5 := fun e => h45 (.inr e)
                have e4 : (kd == 4) = false := by rw [beq_eq_false_iff_ne]; exact h4
                have e5 : (kd == 5) = false := by rw [beq_eq_false_iff_ne]; exact h5
                have e6 : (kd == 6) = false := by rw [beq_eq_false_iff_ne]; exact h6
                go_wp2_with fail
                (with_reducible refine (sweep_any w3 p R S HB3.out.arm HR.out.rel.inv.1 HR.out.rel.inv.2).mono ?_)
                rintro e w5 ⟨n, S5, R5, rfl, hs5, hA5, hS5⟩
                obtain ⟨f2, f3, f4, f5, t5, gD, gT⟩ := kept6 HD3.out HT3.out hS5 (fun b hb => HDM.out b (.inl hb)) (fun b hb => HTM.out b (.inl hb))
                have HT5 := Lib.hid gT
                have HD5 := Lib.hid gD
                have HB5 := Lib.hid (HB3.out.step hS5 hA5)
                have hak := aKo (T t) t kd a0 a1 a2 a3 h1 h2 h3 h4 h5 h6
                have HR5 : Hid (AlR S5 M (upd T t (aStepK (T t) t kd a0 a1 a2 a3).1) (i + 1)) := by
                  show AlR _ _ _ _
                  rw [hak, upd_id]; exact HR.out.sweep hs5
                have HAK := Lib.hid hak
                clear hA5 hS5 f2 f3 f4 f5 t5 gD gT hs5 hak
                go_wp2_with fail
                go_meet
                exact ⟨-1, _, _, _, _, rfl, by rw [HAK.out], HB5.out, HR5.out, HT5.out, HD5.out⟩
              case rest =>
                as_aux_lemma =>
                obtain ⟨x, R4, S4, sv4, M4, rfl, hx4, hB4, hR4, hT4, hD4⟩ := hcut
                generalize wc = w4 at *
                have HB4 := Lib.hid hB4
                have HR4 := Lib.hid hR4
                have HX4 := Lib.hid hx4
                have HT4 := Lib.hid hT4
                have HD4 := Lib.hid hD4
                have t0 : w4.cell? ⟨tb, 0, none⟩ = some (.int .i64 t) := HT4.out.cellS rfl
                have d0 : w4.cell? ⟨db, 0, none⟩ = some (.int .i64 kd) := HD4.out.cellS rfl
                clear hx4 hB4 hR4 hT4 hD4
                by_cases htm : t = me
                · subst htm
                  have HTOL := Lib.hid (HTO.out rfl)
                  have hcn := HR4.out.rel.count HT.out
                  rw [upd_same] at hcn
                  have HCN := Lib.hid hcn
                  have HC := Lib.hid (count_any w4.drew p R4 S4 HB4.out.arm.drew t (by have := HT.out; omega))
                  have HTS := Lib.hid HB4.out.told
                  have HTN2 : Hid (∀ b, sblk u11 = some b → b ≠ tb) := fun b hb => HTM.out b (.inr (.inr (.inl hb)))
                  have HTN3 : Hid (∀ b, sblk u11 = some b → b ≠ db) := fun b hb => HDM.out b (.inr (.inr hb))
                  generalize hc4 : S4.count t = c4 at *
                  have HX := Lib.hid (Rd.fresh w4 IT #[.int .i64 kd, .int .i64 x, .int .i64 c4] 1 3 rfl (by unfold maxLen; omega))
                  have H3C : Hid (∀ u ∈ (#[.int .i64 kd, .int .i64 x, .int .i64 c4] : Array Value).toList, u.oneCell' = true) := by intro u hu; simp at hu; rcases hu with rfl | rfl | rfl <;> rfl
                  have HBE1 : Hid ((told.length + 3) * 8 ≤ 140737488355328) := by show _ ≤ _; have := HTL.out; have := H2.out; omega
                  have HBE2 : Hid (told.length + 3 ≤ maxLen) := by show _ ≤ _; have := HTL.out; have := H2.out; unfold maxLen; omega
                  have dd : (w4.alloc (.cells #[.int .i64 kd, .int .i64 x, .int .i64 c4] IT)).drew.cell? ⟨db, 0, none⟩ = some (.int .i64 kd) := ((HD4.out.alloc _).drew).cellS rfl
                  have dt : (w4.alloc (.cells #[.int .i64 kd, .int .i64 x, .int .i64 c4] IT)).drew.cell? ⟨tb, 0, none⟩ = some (.int .i64 t) := ((HT4.out.alloc _).drew).cellS rfl
                  have HDD := Lib.hid dd
                  have HDT := Lib.hid dt
                  have HT0 := Lib.hid t0
                  have HD0 := Lib.hid d0
                  clear hc4 hcn dd dt
                  go_wp2_with fail
                  go_region_law
                    (first
                      | (refine step_append_sl _ rfl (.tmp 197) (.tmp 204) 28 rfl IT (.int .i64 0) 1 8 Try.underlying28 Try.infoInt rfl (by decide) rfl (by exact HTS.out.alloc _) rfl (by exact HX.out) (by exact H3C.out) (by exact HBE1.out) (by exact HBE2.out) ?_; intro v6 w6 hs6 hm6 hd6; obtain ⟨q0, q1, hB7⟩ := HB4.out.tellEnd HD4.out HT4.out rfl rfl HTN3.out HTN2.out hm6.undrew hs6 rfl hd6; obtain ⟨A6, cap6, rfl, g6, g7⟩ := hs6.form)
                      | (go_simp; go_at_call 24; refine HC.out.mono ?_; rintro e w' ⟨rfl, rfl⟩))
                  all_goals
                    have HB7 := Lib.hid hB7
                    clear hs6 hm6 hd6 q0 q1 hB7 g6 g7
                    go_wp2_with fail
                    go_roundw
                    case rel =>
                      repeat apply Exists.intro
                      refine And.intro ?_ rfl
                      exact ⟨i + 1, R4, S4, _, _, by go_num, H1.out, H2.out, by rw [HTD.out, HTOL.out, ← HX4.out, ← HCN.out]; exact HB7.out, by rw [HTE.out, HSTE.out]; exact HR4.out⟩
                    case measure => simp [intOf]; have := H2.out; omega
                · have n1 : ¬ ((t : Int) = (me : Int)) := fun e => htm (by omega)
                  have HTOL := Lib.hid (HTN.out htm)
                  go_wp2_with fail
                  go_roundw
                  case rel =>
                    repeat apply Exists.intro
                    refine And.intro ?_ rfl
                    exact ⟨i + 1, R4, S4, _, _, by go_num, H1.out, H2.out, by rw [HTD.out, HTOL.out]; exact HB4.out, by rw [HTE.out, HSTE.out]; exact HR4.out⟩
                  case measure => simp [intOf]; have := H2.out; omega
            · skip
              as_aux_lemma =>
              have htm : ¬ t = me := fun e => hskip (.inr e)
              have hal : all = false := by cases all; rfl; exact absurd (.inl rfl) hskip
              subst hal
              have n1 : ¬ ((t : Int) = (me : Int)) := fun e => htm (by omega)
              obtain ⟨hs1, hs2⟩ := HSK.out hskip
              have HS1 := Lib.hid hs1
              have HS2 := Lib.hid hs2
              clear hs1 hs2
              go_upto_region 15 with fail
              rw [HW3.out]
              clear d0 HW3
              generalize w2.heap.size = tb at *
              have t0 : w3.cell? ⟨tb, 0, none⟩ = some (.int .i64 t) := HT3.out.cellS rfl
              go_wp2_with fail
              go_roundw
              case rel =>
                repeat apply Exists.intro
                refine And.intro ?_ rfl
                exact ⟨i + 1, R, S, _, _, by go_num, H1.out, H2.out, by rw [HTD.out, HS2.out]; exact HB3.out, by rw [HTE.out, HS1.out]; exact HR.out.more⟩
              case measure => simp [intOf]; have := H2.out; omega
          · skip
            as_aux_lemma =>
            have he : i = min len 150 := by omega
            have HEI := Lib.hid he
            clear he hi hi2
            go_wp2_with fail
            go_returns
            exact ⟨u11, rfl, by rw [← HEI.out]; exact HB.out.told, HB.out.tlt, HB.out.below⟩
        · skip
          as_aux_lemma =>
          have he : i = min len 150 := by omega
          have HEI := Lib.hid he
          clear he hi hi2
          go_wp2_with fail
          go_returns
          exact ⟨u11, rfl, by rw [← HEI.out]; exact HB.out.told, HB.out.tlt, HB.out.below⟩
end Go.Proofs.Ytfoipadgicjcaaa
