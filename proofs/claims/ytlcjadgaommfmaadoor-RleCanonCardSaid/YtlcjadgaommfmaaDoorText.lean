/- rule.Text, rule.Read: the walks. -/
import Derived.Test.YtlcjadgaommfmaaDoorDigits
import Derived.Laws.Concat
import Derived.Laws.ResultCell
namespace Go.Proofs.YtlcjadgaommfmaaDoor
open Go.RowKit

def textL (b l : Int) : List UInt8 := 66 :: (digs b 9 ++ (47 :: 83 :: digs l 9))

theorem goodR_b' {b l : Int} (h : goodR b l) : 0 ≤ b ∧ b < 512 := h.1
theorem goodR_l' {b l : Int} (h : goodR b l) : 0 ≤ l ∧ l < 512 := h.2.1

def TextPost (w : World) (b l : Int) (e : Ending) (w' : World) : Prop := e = .returned (.tuple #[.string (str (textL b l)), .int .i64 0]) ∧ Below w.heap.size w w'

set_option maxRecDepth 100000 in
set_option maxHeartbeats 1600000 in
theorem text_good (w : World) (b l : Int) (hg : goodR b l) :
    Calls Tryd.prog 19 #[.agg #[.int .i64 b, .int .i64 l]] w (TextPost w b l) := by
  have HG := Lib.hid hg
  have HE : Hid (66 :: (digs b 9 ++ (47 :: 83 :: digs l 9)) = textL b l) := rfl
  have HD1 := Lib.hid (digs_len b 9)
  have HD2 := Lib.hid (digs_len l 9)
  clear hg
  go_enter Tryd.func19, Tryd.ntmps19
  go_wp2_with fail
  (with_reducible refine (good_true _ b l HG.out).mono ?_)
  rintro e w1 ⟨rfl, hb1⟩
  have hz1 := hb1.size
  rw [World.size_alloc] at hb1 hz1
  have HB1 : Hid (Below w.heap.size w w1) := ((Below.refl _ _).alloc (Nat.le_refl _) _).trans (hb1.mono (by omega))
  have hr1 : Blk w1 w.heap.size 24 #[.int .i64 b, .int .i64 l] := (hb1.block _ (by omega)).trans (Blk.new w _ _)
  have c0 : w1.cell? ⟨w.heap.size, 0, none⟩ = some (.int .i64 b) := hr1.cellS rfl
  have c1 : w1.cell? ⟨w.heap.size, 1, none⟩ = some (.int .i64 l) := hr1.cellS rfl
  have hlt : w.heap.size < w1.heap.size := by omega
  have HB : Hid (0 ≤ b ∧ b < 512) := goodR_b' HG.out
  have HL : Hid (0 ≤ l ∧ l < 512) := goodR_l' HG.out
  have HC1 : Hid (∀ w : World, Calls Tryd.prog 39 #[.int .i64 b] w fun e w' => e = .returned (.string (str (digs b 9))) ∧ Below w.heap.size w w') := fun w => digits_any w b HB.out.1 HB.out.2
  have HC2 : Hid (∀ w : World, Calls Tryd.prog 39 #[.int .i64 l] w fun e w' => e = .returned (.string (str (digs l 9))) ∧ Below w.heap.size w w') := fun w => digits_any w l HL.out.1 HL.out.2
  clear hb1 hz1 hr1
  generalize digs b 9 = d1 at HE HD1 HC1
  generalize digs l 9 = d2 at HE HD2 HC2
  have e1 : ∀ w, (Op.stringOp .add ⟨#[66]⟩ (str d1)).run Tryd.prog w = .ok (.string (str (66 :: d1))) w := fun w => by
    rw [run_string_add_sum w _ _ (by have := HD1.out; rw [str_size]; have e : (⟨#[66]⟩ : ByteArray).size = 1 := rfl; omega)]
    exact congrArg (fun x => Result.ok (Value.string x) w) (str_append [66] d1)
  have e2 : ∀ w, (Op.stringOp .add (str (66 :: d1)) ⟨#[47, 83]⟩).run Tryd.prog w = .ok (.string (str (66 :: d1 ++ [47, 83]))) w := fun w => by
    rw [run_string_add_sum w _ _ (by have := HD1.out; rw [str_size, List.length_cons]; have e : (⟨#[47, 83]⟩ : ByteArray).size = 2 := rfl; omega)]
    exact congrArg (fun x => Result.ok (Value.string x) w) (str_append (66 :: d1) [47, 83])
  have e3 : ∀ w, (Op.stringOp .add (str (66 :: d1 ++ [47, 83])) (str d2)).run Tryd.prog w = .ok (.string (str (textL b l))) w := fun w => by
    rw [run_string_add_sum w _ _ (by have := HD1.out; have := HD2.out; rw [str_size, str_size, List.length_append, List.length_cons]; simp; omega), str_append, ← HE.out]
    simp
  generalize str (66 :: d1 ++ [47, 83]) = s2 at e2 e3
  generalize str (66 :: d1) = s1 at e1 e2
  generalize str d1 = s0 at e1 HC1
  generalize str d2 = s3 at e3 HC2
  go_wp2_with fail
  go_region_held3 (fun w' => w'.cell? ⟨w.heap.size, 0, none⟩ = some (.int .i64 b) ∧ w'.cell? ⟨w.heap.size, 1, none⟩ = some (.int .i64 l)) (first | exact ⟨c0, c1⟩ | exact ⟨(hb2.cell (p := ⟨w.heap.size, 0, none⟩) hlt).trans c0, (hb2.cell (p := ⟨w.heap.size, 1, none⟩) hlt).trans c1⟩ | exact ⟨(hb3.cell (p := ⟨w.heap.size, 0, none⟩) hlt2).trans ((hb2.cell (p := ⟨w.heap.size, 0, none⟩) hlt).trans c0), (hb3.cell (p := ⟨w.heap.size, 1, none⟩) hlt2).trans ((hb2.cell (p := ⟨w.heap.size, 1, none⟩) hlt).trans c1)⟩)
    (first
      | (go_at_call_of 39 (Value.int .i64 b); refine (HC1.out _).mono ?_; rintro e w2 ⟨rfl, hb2⟩; have hlt2 : w.heap.size < w2.heap.size := Nat.lt_of_lt_of_le hlt hb2.size)
      | (go_at_call_of 39 (Value.int .i64 l); refine (HC2.out _).mono ?_; rintro e w3 ⟨rfl, hb3⟩))
  have hb2' : Below w1.heap.size w1 w2 := ⟨hb2.os, hb2.tape, hb2.output, hb2.size, hb2.block⟩
  have HB3 : Hid (Below w.heap.size w w3) := (HB1.out.trans (hb2'.mono HB1.out.size)).trans (hb3.mono (by omega))
  clear hb2 hb2' hb3 c0 c1 hlt hlt2
  go_wp2
  go_ret2
  exact ⟨rfl, HB3.out⟩

theorem text_bad (w : World) (b l : Int) (hb : -9223372036854775808 ≤ b ∧ b ≤ 9223372036854775807) (hg : ¬ goodR b l) :
    Calls Tryd.prog 19 #[.agg #[.int .i64 b, .int .i64 l]] w fun e w' => e = .returned (.tuple #[.string (str []), .int .i64 3]) ∧ Below w.heap.size w w' := by
  have HG := Lib.hid hg
  have HBB := Lib.hid hb
  clear hg hb
  go_enter Tryd.func19, Tryd.ntmps19
  go_wp2_with fail
  (with_reducible refine (good_false _ b l HBB.out HG.out).mono ?_)
  rintro e w1 ⟨rfl, hb1⟩
  have hz1 := hb1.size
  rw [World.size_alloc] at hb1 hz1
  have HB1 : Hid (Below w.heap.size w w1) := ((Below.refl _ _).alloc (Nat.le_refl _) _).trans (hb1.mono (by omega))
  clear hb1 hz1
  go_wp2
  go_ret2
  exact ⟨rfl, HB1.out⟩

/-- What Read answers. -/
def readR (s : List UInt8) : Int × Int × Int :=
  match s with
  | [] => (0, 0, 2)
  | c :: s1 => if c.toNat = 66 then
      (match (rise 0 s1).2 with
        | x :: y :: s3 => if x.toNat = 47 ∧ y.toNat = 83 then (if (rise 0 s3).2 = [] then (if (rise 0 s1).1 % 2 = 0 then (((rise 0 s1).1 : Int), ((rise 0 s3).1 : Int), 0) else (0, 0, 4)) else (0, 0, 2)) else (0, 0, 2)
        | _ => (0, 0, 2))
    else (0, 0, 2)
theorem rise_lt : ∀ (l : List UInt8) (lo : Nat), lo ≤ 9 → (rise lo l).1 + 2 ^ lo ≤ 512
  | [], lo, h => by
    have := Nat.pow_le_pow_right (n := 2) (by omega) h
    rw [rise]; simp; omega
  | c :: s, lo, h => by
    rw [rise]
    split
    · rename_i hc
      have ih := rise_lt s (c.toNat - 48 + 1) (by omega)
      rw [Nat.pow_succ] at ih
      have := Nat.pow_le_pow_right (n := 2) (by omega) hc.2.2
      dsimp only
      omega
    · have := Nat.pow_le_pow_right (n := 2) (by omega) h
      simp; omega

def ReadPost (w : World) (s : List UInt8) (e : Ending) (w' : World) : Prop :=
  e = .returned (.tuple #[.agg #[.int .i64 (readR s).1, .int .i64 (readR s).2.1], .int .i64 (readR s).2.2]) ∧ Below w.heap.size w w'

theorem slash_eq {x y : UInt8} (hx : x.toNat = 47) (hy : y.toNat = 83) : x = 47 ∧ y = 83 := ⟨UInt8.toNat_inj.1 hx, UInt8.toNat_inj.1 hy⟩

set_option maxRecDepth 100000 in
set_option maxHeartbeats 1600000 in
theorem read_any (w : World) (s : List UInt8) :
    Calls Tryd.prog 36 #[.string (str s)] w (ReadPost w s) := by
  cases s with
  | nil =>
    have hE := str_nil_e
    go_enter Tryd.func36, Tryd.ntmps36
    go_wp2
    refine bodyPost_ret (v := .tuple #[.agg #[.int .i64 0, .int .i64 0], .int .i64 2]) (by rw [results_cell_tmp rfl]; go_simp) rfl ?_
    have hv : readR [] = (0, 0, 2) := by rfl
    exact ⟨by rw [hv], (Below.refl _ _).alloc (Nat.le_refl _) _⟩
  | cons c s1 =>
    have hE := str_cons_ne c s1
    have hp := str_cons_pos c s1
    have hg := str_cons_get c s1
    have ht := str_tail c s1
    by_cases hc : (c.toNat : Int) = 66
    · have hc' : Hid (c.toNat = 66) := by show _ = _; omega
      go_enter Tryd.func36, Tryd.ntmps36
      go_wp2_with fail
      (with_reducible refine (mask_any _ s1).mono ?_)
      rintro e wq ⟨rfl, rfl⟩
      have HM1 := Lib.hid (rise_lt s1 0 (by omega))
      clear hE hp hg ht
      generalize hr1 : (rise 0 s1).2 = s2
      generalize hm1 : (rise 0 s1).1 = m1 at HM1 ⊢
      have HR1 := Lib.hid hr1
      have HMM1 := Lib.hid hm1
      clear hr1 hm1
      cases s2 with
      | nil =>
        have hz : (str []).size = 0 := rfl
        go_wp2
        refine bodyPost_ret (v := .tuple #[.agg #[.int .i64 0, .int .i64 0], .int .i64 2]) (by rw [results_cell_tmp rfl]; go_simp) rfl ?_
        have hv : readR (c :: s1) = (0, 0, 2) := by rw [readR, if_pos hc'.out, HR1.out]
        exact ⟨by rw [hv], ((Below.refl _ _).alloc (Nat.le_refl _) _).alloc (by rw [World.size_alloc]; omega) _⟩
      | cons x s2 =>
        cases s2 with
        | nil =>
          have hz : (str [x]).size = 1 := rfl
          go_wp2
          refine bodyPost_ret (v := .tuple #[.agg #[.int .i64 0, .int .i64 0], .int .i64 2]) (by rw [results_cell_tmp rfl]; go_simp) rfl ?_
          have hv : readR (c :: s1) = (0, 0, 2) := by rw [readR, if_pos hc'.out, HR1.out]
          exact ⟨by rw [hv], ((Below.refl _ _).alloc (Nat.le_refl _) _).alloc (by rw [World.size_alloc]; omega) _⟩
        | cons y s3 =>
          have hz : 2 ≤ ((str (x :: y :: s3)).size : Int) := by rw [str_size]; simp; omega
          by_cases hxy : x.toNat = 47 ∧ y.toNat = 83
          · have hq : (!((str (x :: y :: s3)).extract 0 2).toList == [47, 83]) = false := by
              obtain ⟨rfl, rfl⟩ := slash_eq hxy.1 hxy.2
              rw [str_two]; rfl
            have ht2 := str_two_tail x y s3
            have HXY := Lib.hid hxy
            clear hxy
            go_wp2_with fail
            (with_reducible refine (mask_any _ s3).mono ?_)
            rintro e wq ⟨rfl, rfl⟩
            have HM2 := Lib.hid (rise_lt s3 0 (by omega))
            clear hq ht2 hz
            generalize hr2 : (rise 0 s3).2 = s4
            generalize hm2 : (rise 0 s3).1 = m2 at HM2 ⊢
            have HR2 := Lib.hid hr2
            have HMM2 := Lib.hid hm2
            clear hr2 hm2
            cases s4 with
            | nil =>
              have hE4 := str_nil_e
              go_wp2_with fail
              by_cases hev : m1 % 2 = 0
              · have HEV := Lib.hid hev
                (with_reducible refine (good_true _ (m1 : Int) (m2 : Int) (by have := HM1.out; have := HM2.out; simp at *; unfold goodR; omega)).mono ?_)
                rintro e w5 ⟨rfl, hb5⟩
                have hn : Blk ((w.alloc (.cells #[.int .i64 0, .int .i64 0] 24)).alloc (.cells #[.int .i64 m1, .int .i64 m2] 24)) (w.heap.size + 1) 24 #[.int .i64 m1, .int .i64 m2] := by
                  have := Blk.new (w.alloc (.cells #[.int .i64 0, .int .i64 0] 24)) 24 #[.int .i64 m1, .int .i64 m2]
                  rwa [World.size_alloc] at this
                have hn0 : Blk ((w.alloc (.cells #[.int .i64 0, .int .i64 0] 24)).alloc (.cells #[.int .i64 m1, .int .i64 m2] 24)) w.heap.size 24 #[.int .i64 0, .int .i64 0] := (Blk.new w _ _).alloc _
                have hk1 := hn.mod (Mod.of_below_all hb5) id
                have hk0 := hn0.mod (Mod.of_below_all hb5) id
                have c0 : w5.cell? ⟨w.heap.size + 1, 0, none⟩ = some (.int .i64 m1) := hk1.cellS rfl
                have c1 : w5.cell? ⟨w.heap.size + 1, 1, none⟩ = some (.int .i64 m2) := hk1.cellS rfl
                have r0 : w5.cell? ⟨w.heap.size, 0, none⟩ = some (.int .i64 0) := hk0.cellS rfl
                have r1 : w5.cell? ⟨w.heap.size, 1, none⟩ = some (.int .i64 0) := hk0.cellS rfl
                have f0 := hk0.frozen 0
                have f1 := hk0.frozen 1
                have hz5 : w.heap.size < w5.heap.size := hk0.lt
                have HB5 : Hid (Below w.heap.size w w5) := (((Below.refl _ _).alloc (Nat.le_refl _) _).alloc (by rw [World.size_alloc]; omega) _).trans (hb5.mono (by rw [World.size_alloc, World.size_alloc]; omega))
                clear hb5 hn hn0 hk1 hk0
                go_wp2
                refine bodyPost_ret (v := .tuple #[.agg #[.int .i64 m1, .int .i64 m2], .int .i64 0]) (by rw [results_cell_tmp rfl]; go_simp) rfl ?_
                have hv : readR (c :: s1) = ((m1 : Int), (m2 : Int), 0) := by rw [readR, if_pos hc'.out, HR1.out]; simp only [HXY.out, HR2.out, HMM1.out, HMM2.out]; simp [HEV.out]
                exact ⟨by rw [hv], (HB5.out.setCell (Nat.le_refl _) _).setCell (Nat.le_refl _) _⟩
              · have HEV := Lib.hid hev
                (with_reducible refine (good_false _ (m1 : Int) (m2 : Int) (by have := HM1.out; simp at *; omega) (by unfold goodR; omega)).mono ?_)
                rintro e w5 ⟨rfl, hb5⟩
                have hn : Blk ((w.alloc (.cells #[.int .i64 0, .int .i64 0] 24)).alloc (.cells #[.int .i64 m1, .int .i64 m2] 24)) (w.heap.size + 1) 24 #[.int .i64 m1, .int .i64 m2] := by
                  have := Blk.new (w.alloc (.cells #[.int .i64 0, .int .i64 0] 24)) 24 #[.int .i64 m1, .int .i64 m2]
                  rwa [World.size_alloc] at this
                have hn0 : Blk ((w.alloc (.cells #[.int .i64 0, .int .i64 0] 24)).alloc (.cells #[.int .i64 m1, .int .i64 m2] 24)) w.heap.size 24 #[.int .i64 0, .int .i64 0] := (Blk.new w _ _).alloc _
                have hk1 := hn.mod (Mod.of_below_all hb5) id
                have hk0 := hn0.mod (Mod.of_below_all hb5) id
                have c0 : w5.cell? ⟨w.heap.size + 1, 0, none⟩ = some (.int .i64 m1) := hk1.cellS rfl
                have c1 : w5.cell? ⟨w.heap.size + 1, 1, none⟩ = some (.int .i64 m2) := hk1.cellS rfl
                have r0 : w5.cell? ⟨w.heap.size, 0, none⟩ = some (.int .i64 0) := hk0.cellS rfl
                have r1 : w5.cell? ⟨w.heap.size, 1, none⟩ = some (.int .i64 0) := hk0.cellS rfl
                have f0 := hk0.frozen 0
                have f1 := hk0.frozen 1
                have hz5 : w.heap.size < w5.heap.size := hk0.lt
                have HB5 : Hid (Below w.heap.size w w5) := (((Below.refl _ _).alloc (Nat.le_refl _) _).alloc (by rw [World.size_alloc]; omega) _).trans (hb5.mono (by rw [World.size_alloc, World.size_alloc]; omega))
                clear hb5 hn hn0 hk1 hk0
                go_wp2
                refine bodyPost_ret (v := .tuple #[.agg #[.int .i64 0, .int .i64 0], .int .i64 4]) (by rw [results_cell_tmp rfl]; go_simp) rfl ?_
                have hv : readR (c :: s1) = (0, 0, 4) := by rw [readR, if_pos hc'.out, HR1.out]; simp only [HXY.out, HR2.out, HMM1.out, HMM2.out]; simp [HEV.out]
                exact ⟨by rw [hv], (HB5.out.setCell (Nat.le_refl _) _).setCell (Nat.le_refl _) _⟩
            | cons z s5 =>
              have hE4 := str_cons_ne z s5
              go_wp2
              refine bodyPost_ret (v := .tuple #[.agg #[.int .i64 0, .int .i64 0], .int .i64 2]) (by rw [results_cell_tmp rfl]; go_simp) rfl ?_
              have hv : readR (c :: s1) = (0, 0, 2) := by rw [readR, if_pos hc'.out, HR1.out]; simp only [HXY.out, HR2.out]; rfl
              exact ⟨by rw [hv], ((Below.refl _ _).alloc (Nat.le_refl _) _).alloc (by rw [World.size_alloc]; omega) _⟩
          · have hq : (!((str (x :: y :: s3)).extract 0 2).toList == [47, 83]) = true := by
              rw [str_two]
              simp only [Bool.not_eq_true', beq_eq_false_iff_ne, ne_eq, List.cons.injEq, and_true]
              rintro ⟨rfl, rfl⟩; exact hxy ⟨rfl, rfl⟩
            have HXY := Lib.hid hxy
            clear hxy
            go_wp2
            refine bodyPost_ret (v := .tuple #[.agg #[.int .i64 0, .int .i64 0], .int .i64 2]) (by rw [results_cell_tmp rfl]; go_simp) rfl ?_
            have hv : readR (c :: s1) = (0, 0, 2) := by rw [readR, if_pos hc'.out, HR1.out]; exact if_neg HXY.out
            exact ⟨by rw [hv], ((Below.refl _ _).alloc (Nat.le_refl _) _).alloc (by rw [World.size_alloc]; omega) _⟩
    · have hc' : Hid (¬ c.toNat = 66) := by show ¬ _; omega
      have hcb : ((c.toNat : Int) != 66) = true := by simp [bne]; exact hc
      go_enter Tryd.func36, Tryd.ntmps36
      go_wp2
      refine bodyPost_ret (v := .tuple #[.agg #[.int .i64 0, .int .i64 0], .int .i64 2]) (by rw [results_cell_tmp rfl]; go_simp) rfl ?_
      have hv : readR (c :: s1) = (0, 0, 2) := by rw [readR, if_neg hc'.out]
      exact ⟨by rw [hv], (Below.refl _ _).alloc (Nat.le_refl _) _⟩
end Go.Proofs.YtlcjadgaommfmaaDoor
