/- rle.Decode: the walk. -/
import Derived.Test.YtlcjadgaommfmaaDoorRlHead
import Derived.Test.YtlcjadgaommfmaaDoorRlScan
namespace Go.Proofs.YtlcjadgaommfmaaDoor
open Go.RowKit

theorem hasPre_any (w : World) (s : List UInt8) :
    Calls Tryd.prog 15 #[.string (str s), .string ⟨#[35]⟩] w fun e w' => e = .returned (.bool (decide (s.head? = some 35))) ∧ w = w' := by
  refine (Tryd.strings_HasPrefix (str s) ⟨#[35]⟩ w).mono ?_
  rintro e w' ⟨rfl, rfl⟩
  refine ⟨?_, rfl⟩
  have h : Lib.hasPrefix (str s).data.toList (⟨#[35]⟩ : ByteArray).data.toList = decide (s.head? = some 35) := by
    unfold Lib.hasPrefix str
    cases s with
    | nil => rfl
    | cons c r =>
      by_cases hc : c = 35
      · subst hc; simp
      · have : ¬ (35 : UInt8) = c := fun e => hc e.symm
        have h2 : ([35] : List UInt8).isPrefixOf (c :: r) = false := by
          show ((35 : UInt8) == c && ([] : List UInt8).isPrefixOf r) = false
          rw [beq_eq_false_iff_ne.2 this]; rfl
        rw [decide_eq_false (by simpa using hc)]
        simpa using h2
  rw [h]
theorem cutN_any (w : World) (m : Int) (hm : w.cell? ⟨0, 0, none⟩ = some (.int .i64 m)) (a : List UInt8) (ha : a.length ≤ 1000000) :
    Calls Tryd.prog 16 #[.string (str a), .string ⟨#[10]⟩] w fun e w' => e = .returned (.tuple #[.string (str (cutNl a).1), .string (str (cutNl a).2.1), .bool (cutNl a).2.2]) ∧ Below w.heap.size w w' := by
  refine (Tryd.strings_Cut (str a) ⟨#[10]⟩ m w (by rw [str_size]; omega) hm).mono ?_
  rintro e w' ⟨rfl, n, rfl⟩
  exact ⟨rfl, below_drewN (Below.refl _ _) _⟩
theorem cutNl_len (s : List UInt8) : (cutNl s).1.length ≤ s.length ∧ (cutNl s).2.1.length ≤ s.length - 1 := by
  unfold cutNl Lib.cut
  split
  · dsimp only
    rw [List.length_take, List.length_drop, List.length_singleton]
    omega
  · simp
theorem skipC_more : ∀ (f : Nat) (s : List UInt8), s.length ≤ f → ∀ g, s.length ≤ g → skipC f s = skipC g s
  | 0, s, hs, g, _ => by
    have : s = [] := List.eq_nil_of_length_eq_zero (by omega)
    subst this
    cases g <;> rfl
  | f + 1, s, hs, 0, hg => by
    have : s = [] := List.eq_nil_of_length_eq_zero (by omega)
    subst this
    rfl
  | f + 1, s, hs, g + 1, hg => by
    rw [skipC, skipC]
    by_cases h : s.head? = some 35
    · rw [if_pos h, if_pos h]
      have := (cutNl_len s).2
      exact skipC_more f _ (by omega) g (by omega)
    · rw [if_neg h, if_neg h]
theorem skip_step {s : List UInt8} (h : s.head? = some 35) : skipC s.length s = skipC (cutNl s).2.1.length (cutNl s).2.1 ∧ (cutNl s).2.1.length < s.length := by
  cases s with
  | nil => cases h
  | cons c r =>
    have hl := (cutNl_len (c :: r)).2
    rw [List.length_cons] at hl ⊢
    refine ⟨?_, by omega⟩
    rw [skipC, if_pos h]
    exact skipC_more _ _ (by omega) _ (Nat.le_refl _)
theorem skip_stop {s : List UInt8} (h : s.head? ≠ some 35) : skipC s.length s = s := by
  cases s with
  | nil => rfl
  | cons c r => rw [List.length_cons, skipC, if_neg h]
def DecPost (w : World) (s : List UInt8) (e : Ending) (w' : World) : Prop :=
  ∃ v, e = .returned (.tuple #[v, .agg #[.int .i64 (decodeR readR s).2.1.1, .int .i64 (decodeR readR s).2.1.2], .int .i64 (decodeR readR s).2.2]) ∧ Sl w' 50 2 v (decodeR readR s).1.length (flat (decodeR readR s).1) ∧ (∀ b, sblk v = some b → w.heap.size ≤ b) ∧ Below w.heap.size w w'

theorem dec_fail {w w' : World} {s : List UInt8} {e : Int} (h : decodeR readR s = ([], (0, 0), e)) (hb : Below w.heap.size w w') : DecPost w s (.returned (.tuple #[.slice none 0 0, .agg #[.int .i64 0, .int .i64 0], .int .i64 e])) w' :=
  ⟨_, by rw [h], by rw [h]; exact Sl.nil _ _ _, fun b hb => by simp [sblk] at hb, hb⟩
set_option maxRecDepth 100000 in
set_option maxHeartbeats 6400000 in
theorem decode_any (w : World) (m : Int) (hm : w.cell? ⟨0, 0, none⟩ = some (.int .i64 m)) (s : List UInt8) (hl : s.length ≤ 9223372036854775807) :
    Calls Tryd.prog 6 #[.string (str s)] w (DecPost w s) := by
  have hz : ((str s).size : Int) = (s.length : Int) := by rw [str_size]
  have HM := Lib.hid hm
  clear hm
  by_cases hlen : 20000 < s.length
  · have HV : Hid (decodeR readR s = ([], (0, 0), 1)) := if_pos hlen
    have hlen' : 20000 < (s.length : Int) := by omega
    clear hlen
    go_enter Tryd.func6, Tryd.ntmps6
    go_wp2_with fail
    refine bodyPost_ret (v := .tuple #[.slice none 0 0, .agg #[.int .i64 0, .int .i64 0], .int .i64 1]) (by simp [results, Tryd.results6, go_sem]) rfl ?_
    exact ⟨_, by rw [HV.out], by rw [HV.out]; exact Sl.nil _ _ _, fun b hb => by simp [sblk] at hb, (Below.refl _ _).alloc (Nat.le_refl _) _⟩
  · have hlen' : ¬ 20000 < (s.length : Int) := by omega
    have HLE : Hid (s.length ≤ 20000) := by show _ ≤ _; omega
    have HM0 : Hid ((w.alloc (.cells #[.int .i64 0, .int .i64 0] 24)).cell? ⟨0, 0, none⟩ = some (.int .i64 m)) := (World.cell?_alloc_lt w _ (a := ⟨0, 0, none⟩) (World.block_lt_of_cell? w _ HM.out)).trans HM.out
    have HR0 : Hid (Blk (w.alloc (.cells #[.int .i64 0, .int .i64 0] 24)) w.heap.size 24 #[.int .i64 0, .int .i64 0]) := Blk.new w _ _
    have HB0 : Hid (Below w.heap.size w (w.alloc (.cells #[.int .i64 0, .int .i64 0] 24))) := (Below.refl _ _).alloc (Nat.le_refl _) _
    have HDEC : Hid (decodeR readR s = (let s0 := skipC s.length s
      let p := cutNl s0
      let hd := headR readR p.1
      if p.2.2 = false ∨ hd.2.2.2 = false then ([], (0, 0), 2)
      else
        let q := scanR hd.1 hd.2.1 p.2.1 0 0 []
        if q.2 = 0 then (q.1, hd.2.2.1, 0) else ([], (0, 0), q.2))) := if_neg hlen
    clear hl hlen
    go_enter Tryd.func6, Tryd.ntmps6
    go_wp2_with fail
    go_loopw [0] (fun sv wx => ∃ t : List UInt8, sv = .string (str t) ∧ skipC s.length s = skipC t.length t ∧ t.length ≤ 20000 ∧ Below w.heap.size w wx ∧ Blk wx w.heap.size 24 #[.int .i64 0, .int .i64 0] ∧ wx.cell? ⟨0, 0, none⟩ = some (.int .i64 m)) (fun sv _ => strLen sv)
    case atStart => exact ⟨s, rfl, rfl, HLE.out, HB0.out, HR0.out, HM0.out⟩
    case round =>
      obtain ⟨t, rfl, hsk, htl, hb, hr, hmx⟩ := hrel
      have HSK := Lib.hid hsk
      have HTL := Lib.hid htl
      have HB := Lib.hid hb
      have HR := Lib.hid hr
      have HMX := Lib.hid hmx
      have HHP := Lib.hid (hasPre_any wr t)
      have HCU := Lib.hid (cutN_any wr m hmx t (by omega))
      clear hsk htl hb hr hmx
      by_cases h35 : t.head? = some 35
      · rw [decide_eq_true h35] at HHP
        obtain ⟨k1, k2⟩ := skip_step h35
        have K1 := Lib.hid k1
        have K2 := Lib.hid k2
        clear h35 k1 k2
        go_wp2_with fail
        (with_reducible refine HHP.out.mono ?_)
        rintro e w1 ⟨rfl, rfl⟩
        go_wp2_with fail
        (with_reducible refine HCU.out.mono ?_)
        rintro e w2 ⟨rfl, hb2⟩
        have HB2 : Hid (Below w.heap.size w w2) := HB.out.trans (hb2.mono HB.out.size)
        have HR2 := Lib.hid (HR.out.mod (Mod.of_below_all hb2) (fun h => h))
        have HM2 : Hid (w2.cell? ⟨0, 0, none⟩ = some (.int .i64 m)) := (hb2.cell (p := ⟨0, 0, none⟩) (World.block_lt_of_cell? wr _ HMX.out)).trans HMX.out
        clear hb2
        generalize (cutNl t).2.1 = t2 at *
        go_wp2_with fail
        exact ⟨⟨t2, rfl, HSK.out.trans K1.out, by have := HTL.out; have := K2.out; omega, HB2.out, HR2.out, HM2.out⟩, by rw [strLen_str, strLen_str]; exact K2.out⟩
      · rw [decide_eq_false h35] at HHP
        have HD2 := Lib.hid HDEC.out
        have hsk2 : skipC s.length s = t := HSK.out.trans (skip_stop h35)
        rw [hsk2] at HD2
        obtain ⟨hcl1, hcl2⟩ := cutNl_len t
        clear h35 hsk2 HDEC
        generalize hc1 : (cutNl t).1 = t1 at *
        generalize (cutNl t).2.1 = t2 at *
        generalize (cutNl t).2.2 = ok at *
        have HHD := Lib.hid (fun w => head_any w t1 (by have := HTL.out; omega))
        unfold HeadPost at HHD
        have HIN := Lib.hid (head_in (rd := readR) (s := t1))
        generalize headR readR t1 = hd at *
        obtain ⟨W, H, ⟨rb, rl⟩, good⟩ := hd
        dsimp only at HHD HIN HD2
        go_wp2_with fail
        (with_reducible refine HHP.out.mono ?_)
        rintro e w1 ⟨rfl, rfl⟩
        go_wp2_with fail
        (with_reducible refine HCU.out.mono ?_)
        rintro e w2 ⟨rfl, hb2⟩
        have HB2 : Hid (Below w.heap.size w w2) := HB.out.trans (hb2.mono HB.out.size)
        have HR2 := Lib.hid (HR.out.mod (Mod.of_below_all hb2) (fun h => h))
        clear hb2
        go_wp2_with fail
        (with_reducible refine (HHD.out _).mono ?_)
        rintro e w3 ⟨rfl, hb3⟩
        have HB3 : Hid (Below w.heap.size w w3) := HB2.out.trans (hb3.mono HB2.out.size)
        have hr3 := HR2.out.mod (Mod.of_below_all hb3) (fun h => h)
        have hx : Blk (w3.alloc (.cells #[.int .i64 rb, .int .i64 rl] 24)) w3.heap.size 24 #[.int .i64 rb, .int .i64 rl] := Blk.new w3 _ _
        have hw4 : Below w3.heap.size w3 (w3.alloc (.cells #[.int .i64 rb, .int .i64 rl] 24)) := (Below.refl _ _).alloc (Nat.le_refl _) _
        have HB4 := Lib.hid (HB3.out.trans (hw4.mono HB3.out.size))
        have HR4 := Lib.hid (hr3.mod (Mod.of_below_all hw4) (fun h => h))
        have HX := Lib.hid hx
        have x0 := hx.cellS (i := 0) rfl
        have x1 := hx.cellS (i := 1) rfl
        have r0 := HR4.out.cellS (i := 0) rfl
        have r1 := HR4.out.cellS (i := 1) rfl
        have f0 := HR4.out.frozen 0
        have f1 := HR4.out.frozen 1
        clear hb3 hr3 hw4 hx
        cases ok
        · have HE : Hid (decodeR readR s = ([], (0, 0), 2)) := HD2.out.trans (if_pos (.inl rfl))
          go_wp2_with fail
          refine bodyPost_ret (v := .tuple #[.slice none 0 0, .agg #[.int .i64 0, .int .i64 0], .int .i64 2]) (by simp [results, Tryd.results6, go_sem, r0, r1]) rfl ?_
          exact dec_fail HE.out (HB4.out.setCell (p := ⟨w.heap.size, 0, none⟩) (Nat.le_refl _) _ |>.setCell (p := ⟨w.heap.size, 1, none⟩) (Nat.le_refl _) _)
        cases good
        · have HE : Hid (decodeR readR s = ([], (0, 0), 2)) := HD2.out.trans (if_pos (.inr rfl))
          go_wp2_with fail
          refine bodyPost_ret (v := .tuple #[.slice none 0 0, .agg #[.int .i64 0, .int .i64 0], .int .i64 2]) (by simp [results, Tryd.results6, go_sem, r0, r1]) rfl ?_
          exact dec_fail HE.out (HB4.out.setCell (p := ⟨w.heap.size, 0, none⟩) (Nat.le_refl _) _ |>.setCell (p := ⟨w.heap.size, 1, none⟩) (Nat.le_refl _) _)
        have HD3 := Lib.hid (HD2.out.trans (if_neg (by simp)))
        obtain ⟨⟨hW, hH⟩, _⟩ := HIN.out rfl
        have HSC := Lib.hid (fun w => scan_any w t2 (by have := HTL.out; omega) (W : Int) (H : Int) ⟨by omega, by omega⟩ ⟨by omega, by omega⟩)
        unfold ScanPost at HSC
        clear HIN HD2 hW hH
        generalize scanR (W : Int) (H : Int) t2 0 0 [] = q at *
        obtain ⟨l, se⟩ := q
        dsimp only at HSC HD3
        go_wp2_with fail
        (with_reducible refine (HSC.out _).mono ?_)
        rintro e w5 ⟨v, rfl, hv, hnew, hb5⟩
        have HV := Lib.hid hv
        have hx5 := HX.out.mod (Mod.of_below_all hb5) (fun h => h)
        have hr5 := HR4.out.mod (Mod.of_below_all hb5) (fun h => h)
        have HB5 := Lib.hid (HB4.out.trans (hb5.mono HB4.out.size))
        have HNEW : Hid (∀ b, sblk v = some b → w.heap.size < b) := fun b hb => by
          have h1 := hnew b hb
          have h2 := HB3.out.size
          have h3 := World.size_alloc w3 (.cells #[.int .i64 rb, .int .i64 rl] 24)
          omega
        obtain ⟨A, cap, rfl, hcap1, hcap2⟩ := hv.form
        clear r0 r1 f0 f1 x0 x1 hv hnew hb5
        have HR5 := Lib.hid hr5
        have x0 := hx5.cellS (i := 0) rfl
        have x1 := hx5.cellS (i := 1) rfl
        have r0 := hr5.cellS (i := 0) rfl
        have r1 := hr5.cellS (i := 1) rfl
        have f0 := hr5.frozen 0
        have f1 := hr5.frozen 1
        clear hx5 hr5
        by_cases h : se = 0
        · have HE : Hid (decodeR readR s = (l, (rb, rl), 0)) := HD3.out.trans (if_pos h)
          have he : (se == 0) = true := by simpa using h
          clear HD3
          subst h
          go_wp2_with fail
          go_region_law (fail)
          go_wp2_with fail
          go_simp
          refine bodyPost_ret (v := .tuple #[.slice A l.length cap, .agg #[.int .i64 rb, .int .i64 rl], .int .i64 0]) (by simp [results, Tryd.results6, go_sem, r0, r1]) rfl ?_
          have hf : ∀ b, sblk (.slice A l.length cap) = some b → w.heap.size ≠ b := fun b hb => by have := HNEW.out b hb; omega
          refine ⟨_, by rw [HE.out], ?_, fun b hb => Nat.le_of_lt (HNEW.out b hb), Below.drew ((HB5.out.setCell (p := ⟨w.heap.size, 0, none⟩) (Nat.le_refl _) _).setCell (p := ⟨w.heap.size, 1, none⟩) (Nat.le_refl _) _)⟩
          rw [HE.out]
          exact (HV.out.far (p := ⟨w.heap.size, 0, none⟩) (fun hb => hf _ hb rfl) _).far (p := ⟨w.heap.size, 1, none⟩) (fun hb => hf _ hb rfl) _
        · have HE : Hid (decodeR readR s = ([], (0, 0), se)) := HD3.out.trans (if_neg h)
          have he : (se == 0) = false := by simpa using h
          clear HD3 h
          go_wp2_with fail
          refine bodyPost_ret (v := .tuple #[.slice none 0 0, .agg #[.int .i64 0, .int .i64 0], .int .i64 se]) (by simp [results, Tryd.results6, go_sem, r0, r1]) rfl ?_
          exact dec_fail HE.out (HB5.out.setCell (p := ⟨w.heap.size, 0, none⟩) (Nat.le_refl _) _ |>.setCell (p := ⟨w.heap.size, 1, none⟩) (Nat.le_refl _) _)
end Go.Proofs.YtlcjadgaommfmaaDoor
