/- rle.head: the walk. -/
import Derived.Test.YtlcjadgaommfmaaDoorRlNum
import Derived.Test.YtlcjadgaommfmaaDoorTextP
import Derived.Test.YtlcjadgaommfmaaDoorShelfLaid
import Derived.Deep.RegionLaw
namespace Go.Proofs.YtlcjadgaommfmaaDoor
open Go.RowKit

theorem cutPre_any (w : World) (s p : List UInt8) (P : ByteArray) (hP : P = str p) :
    Calls Tryd.prog 34 #[.string (str s), .string P] w fun e w' => e = .returned (.tuple #[.string (str (Lib.trimPrefix s p)), .bool (Lib.hasPrefix s p)]) ∧ w = w' := by
  subst hP
  refine (Tryd.strings_CutPrefix (str s) (str p) w).mono ?_
  rintro e w' ⟨rfl, rfl⟩
  exact ⟨rfl, rfl⟩
theorem trim_len (s p : List UInt8) : (Lib.trimPrefix s p).length ≤ s.length := by
  unfold Lib.trimPrefix
  split
  · rw [List.length_drop]; omega
  · exact Nat.le_refl _
/-- What head answers, out of its parts. -/
theorem head_no {rd : List UInt8 → Int × Int × Int} {s : List UInt8} (h : Lib.hasPrefix s [120, 32, 61, 32] = false ∨ (rnum (Lib.trimPrefix s [120, 32, 61, 32])).2.2 = false ∨ Lib.hasPrefix (rnum (Lib.trimPrefix s [120, 32, 61, 32])).2.1 [44, 32, 121, 32, 61, 32] = false ∨ (rnum (Lib.trimPrefix (rnum (Lib.trimPrefix s [120, 32, 61, 32])).2.1 [44, 32, 121, 32, 61, 32])).2.2 = false) : headR rd s = (0, 0, (8, 12), false) := by
  unfold headR
  dsimp only
  rw [if_pos h]
theorem head_short {rd : List UInt8 → Int × Int × Int} {s : List UInt8} (h : ¬ (Lib.hasPrefix s [120, 32, 61, 32] = false ∨ (rnum (Lib.trimPrefix s [120, 32, 61, 32])).2.2 = false ∨ Lib.hasPrefix (rnum (Lib.trimPrefix s [120, 32, 61, 32])).2.1 [44, 32, 121, 32, 61, 32] = false ∨ (rnum (Lib.trimPrefix (rnum (Lib.trimPrefix s [120, 32, 61, 32])).2.1 [44, 32, 121, 32, 61, 32])).2.2 = false))
    (h2 : (rnum (Lib.trimPrefix (rnum (Lib.trimPrefix s [120, 32, 61, 32])).2.1 [44, 32, 121, 32, 61, 32])).2.1 = []) : headR rd s = ((rnum (Lib.trimPrefix s [120, 32, 61, 32])).1, (rnum (Lib.trimPrefix (rnum (Lib.trimPrefix s [120, 32, 61, 32])).2.1 [44, 32, 121, 32, 61, 32])).1, (8, 12), true) := by
  unfold headR
  dsimp only
  rw [if_neg h, if_pos h2]
theorem head_long {rd : List UInt8 → Int × Int × Int} {s s4 s5 : List UInt8} (h : ¬ (Lib.hasPrefix s [120, 32, 61, 32] = false ∨ (rnum (Lib.trimPrefix s [120, 32, 61, 32])).2.2 = false ∨ Lib.hasPrefix (rnum (Lib.trimPrefix s [120, 32, 61, 32])).2.1 [44, 32, 121, 32, 61, 32] = false ∨ (rnum (Lib.trimPrefix (rnum (Lib.trimPrefix s [120, 32, 61, 32])).2.1 [44, 32, 121, 32, 61, 32])).2.2 = false))
    (h4 : (rnum (Lib.trimPrefix (rnum (Lib.trimPrefix s [120, 32, 61, 32])).2.1 [44, 32, 121, 32, 61, 32])).2.1 = s4) (h2 : s4 ≠ []) (h5 : Lib.trimPrefix s4 [44, 32, 114, 117, 108, 101, 32, 61, 32] = s5) : headR rd s = ((rnum (Lib.trimPrefix s [120, 32, 61, 32])).1, (rnum (Lib.trimPrefix (rnum (Lib.trimPrefix s [120, 32, 61, 32])).2.1 [44, 32, 121, 32, 61, 32])).1, ((rd s5).1, (rd s5).2.1), Lib.hasPrefix s4 [44, 32, 114, 117, 108, 101, 32, 61, 32] && decide ((rd s5).2.2 = 0)) := by
  subst h4 h5
  unfold headR
  dsimp only
  rw [if_neg h, if_neg h2]
def HeadPost (w : World) (s : List UInt8) (e : Ending) (w' : World) : Prop :=
  e = .returned (.tuple #[.int .i64 ((headR readR s).1 : Nat), .int .i64 ((headR readR s).2.1 : Nat), .agg #[.int .i64 (headR readR s).2.2.1.1, .int .i64 (headR readR s).2.2.1.2], .bool (headR readR s).2.2.2]) ∧ Below w.heap.size w w'

set_option maxRecDepth 100000 in
set_option maxHeartbeats 3200000 in
theorem head_any (w : World) (s : List UInt8) (hl : s.length ≤ 1000000) :
    Calls Tryd.prog 17 #[.string (str s)] w (HeadPost w s) := by
  have HP1 := Lib.hid (fun w => cutPre_any w s [120, 32, 61, 32] ⟨#[120, 32, 61, 32]⟩ rfl)
  have hl1 := trim_len s [120, 32, 61, 32]
  have HNO := Lib.hid (fun h => head_no (rd := readR) (s := s) h)
  have HSH := Lib.hid (fun h h2 => head_short (rd := readR) (s := s) h h2)
  have HLO := Lib.hid (fun h {s4 s5} h4 h2 h5 => head_long (rd := readR) (s := s) (s4 := s4) (s5 := s5) h h4 h2 h5)
  generalize hs1 : Lib.trimPrefix s [120, 32, 61, 32] = s1 at *
  generalize Lib.hasPrefix s [120, 32, 61, 32] = o1 at *
  have HN1 := Lib.hid (fun w => rlnum_any w s1 (by omega))
  have hl2 := (rnum_rest s1).1
  unfold RNPost at HN1
  generalize (rnum s1).1 = n1 at *
  generalize (rnum s1).2.2 = i1 at *
  generalize (rnum s1).2.1 = s2 at *
  have HP2 := Lib.hid (fun w => cutPre_any w s2 [44, 32, 121, 32, 61, 32] ⟨#[44, 32, 121, 32, 61, 32]⟩ rfl)
  have hl3 := trim_len s2 [44, 32, 121, 32, 61, 32]
  generalize Lib.trimPrefix s2 [44, 32, 121, 32, 61, 32] = s3 at *
  generalize Lib.hasPrefix s2 [44, 32, 121, 32, 61, 32] = o2 at *
  have HN2 := Lib.hid (fun w => rlnum_any w s3 (by omega))
  unfold RNPost at HN2
  generalize (rnum s3).1 = n2 at *
  generalize (rnum s3).2.2 = i2 at *
  generalize (rnum s3).2.1 = s4 at *
  have HP3 := Lib.hid (fun w => cutPre_any w s4 [44, 32, 114, 117, 108, 101, 32, 61, 32] ⟨#[44, 32, 114, 117, 108, 101, 32, 61, 32]⟩ rfl)
  have HLO2 := Lib.hid (fun h h2 => HLO.out h (s4 := s4) (s5 := Lib.trimPrefix s4 [44, 32, 114, 117, 108, 101, 32, 61, 32]) rfl h2 rfl)
  clear hl hl1 hl2 hl3 hs1 HLO
  go_enter Tryd.func17, Tryd.ntmps17
  go_wp2_with fail
  (with_reducible refine (HP1.out _).mono ?_)
  rintro e w1 ⟨rfl, rfl⟩
  go_wp2_with fail
  (with_reducible refine (HN1.out _).mono ?_)
  rintro e w2 ⟨rfl, hb2⟩
  have HB2 := Lib.hid hb2
  clear hb2
  go_wp2_with fail
  (with_reducible refine (HP2.out _).mono ?_)
  rintro e w3 ⟨rfl, rfl⟩
  go_wp2_with fail
  (with_reducible refine (HN2.out _).mono ?_)
  rintro e w4 ⟨rfl, hb4⟩
  have hbase : Below w.heap.size w ((w.alloc (.cells #[.int .i64 0, .int .i64 0] 24)).alloc (.cells #[.int .i64 8, .int .i64 12] 24)) := ((Below.refl _ _).alloc (Nat.le_refl _) _).alloc (by rw [World.size_alloc]; omega) _
  have hr0 : Blk ((w.alloc (.cells #[.int .i64 0, .int .i64 0] 24)).alloc (.cells #[.int .i64 8, .int .i64 12] 24)) w.heap.size 24 #[.int .i64 0, .int .i64 0] := (Blk.new w _ _).alloc _
  have hx0 := Blk.new (w.alloc (.cells #[.int .i64 0, .int .i64 0] 24)) 24 #[.int .i64 8, .int .i64 12]
  rw [World.size_alloc] at hx0
  have hr4 := (hr0.mod (Mod.of_below_all HB2.out) (fun h => h)).mod (Mod.of_below_all hb4) (fun h => h)
  have hx4 := (hx0.mod (Mod.of_below_all HB2.out) (fun h => h)).mod (Mod.of_below_all hb4) (fun h => h)
  have HB4 : Hid (Below w.heap.size w w4) := (hbase.trans (HB2.out.mono hbase.size)).trans (hb4.mono (Nat.le_trans hbase.size HB2.out.size))
  have r0 := hr4.cellS (i := 0) rfl
  have r1 := hr4.cellS (i := 1) rfl
  have f0 := hr4.frozen 0
  have f1 := hr4.frozen 1
  have x0 := hx4.cellS (i := 0) rfl
  have x1 := hx4.cellS (i := 1) rfl
  have g0 := hx4.frozen 0
  have g1 := hx4.frozen 1
  have HR4 := Lib.hid hr4
  have HX4 := Lib.hid hx4
  clear hb4 hr0 hx0 hbase hr4 hx4 HB2
  have h5 : (o1 = false) ∨ (o1 = true ∧ i1 = false) ∨ (o1 = true ∧ i1 = true ∧ o2 = false) ∨ (o1 = true ∧ i1 = true ∧ o2 = true ∧ i2 = false) ∨ (o1 = true ∧ i1 = true ∧ o2 = true ∧ i2 = true) := by
    cases o1 <;> cases i1 <;> cases o2 <;> cases i2 <;> simp
  rcases h5 with rfl | ⟨rfl, rfl⟩ | ⟨rfl, rfl, rfl⟩ | ⟨rfl, rfl, rfl, rfl⟩ | ⟨rfl, rfl, rfl, rfl⟩
  iterate 4
    · have HV := Lib.hid (HNO.out (by simp))
      go_wp2_with fail
      go_region_law (fail)
      go_wp2_with fail
      go_simp
      refine bodyPost_ret (v := .tuple #[.int .i64 0, .int .i64 0, .agg #[.int .i64 8, .int .i64 12], .bool false]) (by simp [results, Tryd.results17, go_sem, r0, r1]) rfl ?_
      exact ⟨by rw [HV.out]; rfl, Below.drew ((HB4.out.setCell (p := ⟨w.heap.size, 0, none⟩) (Nat.le_refl _) _).setCell (p := ⟨w.heap.size, 1, none⟩) (Nat.le_refl _) _)⟩
  have HALL : Hid (¬ ((true : Bool) = false ∨ (true : Bool) = false ∨ (true : Bool) = false ∨ (true : Bool) = false)) := by show ¬ _; simp
  cases s4 with
  | nil =>
    have HV := Lib.hid (HSH.out HALL.out rfl)
    have hE := str_nil_e
    go_wp2_with fail
    go_region_law (fail)
    go_wp2_with fail
    go_simp
    refine bodyPost_ret (v := .tuple #[.int .i64 (n1 : Nat), .int .i64 (n2 : Nat), .agg #[.int .i64 8, .int .i64 12], .bool true]) (by simp [results, Tryd.results17, go_sem, r0, r1]) rfl ?_
    exact ⟨by rw [HV.out], Below.drew ((HB4.out.setCell (p := ⟨w.heap.size, 0, none⟩) (Nat.le_refl _) _).setCell (p := ⟨w.heap.size, 1, none⟩) (Nat.le_refl _) _)⟩
  | cons a r =>
    have HV := Lib.hid (HLO2.out HALL.out (List.cons_ne_nil a r))
    have hE := str_cons_ne a r
    generalize a :: r = s4 at *
    generalize Lib.trimPrefix s4 [44, 32, 114, 117, 108, 101, 32, 61, 32] = s5 at *
    generalize Lib.hasPrefix s4 [44, 32, 114, 117, 108, 101, 32, 61, 32] = o3 at *
    go_wp2_with fail
    (with_reducible refine (HP3.out _).mono ?_)
    rintro e w5 ⟨rfl, rfl⟩
    go_wp2_with fail
    (with_reducible refine (read_any _ s5).mono ?_)
    rintro e w6 ⟨rfl, hb6⟩
    have hr6 := HR4.out.mod (Mod.of_below_all hb6) (fun h => h)
    have hx6 := HX4.out.mod (Mod.of_below_all hb6) (fun h => h)
    have HB6 : Hid (Below w.heap.size w w6) := HB4.out.trans (hb6.mono HB4.out.size)
    generalize (readR s5).1 = rb at *
    generalize (readR s5).2.1 = rl at *
    generalize (readR s5).2.2 = re at *
    clear r0 r1 f0 f1 x0 x1 g0 g1
    have x0 := hx6.cellS (i := 0) rfl
    have x1 := hx6.cellS (i := 1) rfl
    have g0 := hx6.frozen 0
    have g1 := hx6.frozen 1
    have hx7 := (hx6.set 0 (.int .i64 rb)).set 1 (.int .i64 rl)
    have hr7 := (hr6.far (p := ⟨w.heap.size + 1, 0, none⟩) (by show w.heap.size ≠ w.heap.size + 1; omega) (.int .i64 rb)).far (p := ⟨w.heap.size + 1, 1, none⟩) (by show w.heap.size ≠ w.heap.size + 1; omega) (.int .i64 rl)
    have y0 := hx7.cellS (i := 0) rfl
    have y1 := hx7.cellS (i := 1) rfl
    have r0 := hr7.cellS (i := 0) rfl
    have r1 := hr7.cellS (i := 1) rfl
    have f0 := hr7.frozen 0
    have f1 := hr7.frozen 1
    have HB7 : Hid (Below w.heap.size w ((w6.setCell ⟨w.heap.size + 1, 0, none⟩ (.int .i64 rb)).setCell ⟨w.heap.size + 1, 1, none⟩ (.int .i64 rl))) := (HB6.out.setCell (p := ⟨w.heap.size + 1, 0, none⟩) (Nat.le_succ _) _).setCell (p := ⟨w.heap.size + 1, 1, none⟩) (Nat.le_succ _) _
    clear hx6 hr6 hx7 hr7 hb6
    have h3 : (o3 = false) ∨ (o3 = true ∧ re ≠ 0) ∨ (o3 = true ∧ re = 0) := by
      cases o3
      · exact .inl rfl
      · by_cases h : re = 0
        · exact .inr (.inr ⟨rfl, h⟩)
        · exact .inr (.inl ⟨rfl, h⟩)
    rcases h3 with rfl | ⟨rfl, h⟩ | ⟨rfl, h⟩
    · have HO : Hid ((false && decide (re = 0)) = false) := rfl
      have HW : Hid (Below w.heap.size w ((((w6.setCell ⟨w.heap.size + 1, 0, none⟩ (.int .i64 rb)).setCell ⟨w.heap.size + 1, 1, none⟩ (.int .i64 rl)).setCell ⟨w.heap.size, 0, none⟩ (.int .i64 rb)).setCell ⟨w.heap.size, 1, none⟩ (.int .i64 rl))) := (HB7.out.setCell (p := ⟨w.heap.size, 0, none⟩) (Nat.le_refl _) _).setCell (p := ⟨w.heap.size, 1, none⟩) (Nat.le_refl _) _
      go_wp2_with fail
      (first | go_region_law (fail) | fail)
      all_goals
        go_wp2_with fail
        go_simp
        refine bodyPost_ret (v := .tuple #[.int .i64 (n1 : Nat), .int .i64 (n2 : Nat), .agg #[.int .i64 rb, .int .i64 rl], .bool false]) (by simp [results, Tryd.results17, go_sem, r0, r1]) rfl ?_
        exact ⟨by rw [HV.out]; simp [HO.out], HW.out.os, HW.out.tape, HW.out.output, HW.out.size, HW.out.block⟩
    · have HO : Hid (decide (re = 0) = false) := decide_eq_false h
      have he : (re == 0) = false := by simpa using h
      clear h
      go_wp2_with fail
      go_region_law (fail)
      go_wp2_with fail
      go_simp
      refine bodyPost_ret (v := .tuple #[.int .i64 (n1 : Nat), .int .i64 (n2 : Nat), .agg #[.int .i64 rb, .int .i64 rl], .bool false]) (by simp [results, Tryd.results17, go_sem, r0, r1]) rfl ?_
      exact ⟨by rw [HV.out]; simp [HO.out], Below.drew ((HB7.out.setCell (p := ⟨w.heap.size, 0, none⟩) (Nat.le_refl _) _).setCell (p := ⟨w.heap.size, 1, none⟩) (Nat.le_refl _) _)⟩
    · have HO : Hid (decide (re = 0) = true) := decide_eq_true h
      have he : (re == 0) = true := by simpa using h
      clear h
      go_wp2_with fail
      go_region_law (fail)
      go_wp2_with fail
      go_simp
      refine bodyPost_ret (v := .tuple #[.int .i64 (n1 : Nat), .int .i64 (n2 : Nat), .agg #[.int .i64 rb, .int .i64 rl], .bool true]) (by simp [results, Tryd.results17, go_sem, r0, r1]) rfl ?_
      exact ⟨by rw [HV.out]; simp [HO.out], Below.drew ((HB7.out.setCell (p := ⟨w.heap.size, 0, none⟩) (Nat.le_refl _) _).setCell (p := ⟨w.heap.size, 1, none⟩) (Nat.le_refl _) _)⟩
end Go.Proofs.YtlcjadgaommfmaaDoor
