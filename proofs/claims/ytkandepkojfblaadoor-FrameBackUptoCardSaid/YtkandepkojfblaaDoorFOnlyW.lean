/- FrameOnly: the walk. -/
import Derived.Test.YtkandepkojfblaaDoorUnw
import Derived.Test.YtkandepkojfblaaDoorFrames
namespace Go.Proofs.YtkandepkojfblaaDoor
open Go.RowKit

theorem wrap_ge : ∀ (n : Nat) (s : List UInt8), s.length ≤ n → s.length ≤ (wrapL s).length ∧ 128 ≤ (wrapL s).length
  | 0, s, h => by rw [wrapL, dif_pos (by omega), frameOf_len (by omega)]; omega
  | n + 1, s, h => by
    rw [wrapL]
    split
    · rename_i h1; rw [frameOf_len h1]; omega
    · rename_i h1
      have := wrap_ge n (s.drop 126) (by rw [List.length_drop]; omega)
      rw [List.length_drop] at this
      rw [List.length_append, frameOf_len (by rw [List.length_take]; omega)]
      omega
theorem flat_take_succ (L : List (List UInt8)) {j : Nat} (hj : j < L.length) : (L.take (j + 1)).flatMap wrapL = (L.take j).flatMap wrapL ++ wrapL L[j]! := by
  rw [List.take_add_one, List.flatMap_append, List.getElem!_eq_getElem?_getD, List.getElem?_eq_getElem hj]
  simp
theorem flat_len (L : List (List UInt8)) (j : Nat) : ((L.take j).flatMap wrapL).length ≤ (L.flatMap wrapL).length := by
  have e := congrArg (fun l => (l.flatMap wrapL).length) (List.take_append_drop j L)
  simp only [List.flatMap_append, List.length_append] at e
  omega
theorem flat_mem_len {L : List (List UInt8)} {x : List UInt8} (h : x ∈ L) : x.length ≤ (L.flatMap wrapL).length := by
  induction L with
  | nil => cases h
  | cons a r ih =>
    rw [List.flatMap_cons, List.length_append]
    rw [List.mem_cons] at h
    rcases h with rfl | h
    · have := (wrap_ge _ x (Nat.le_refl _)).1; omega
    · have := ih h; omega
theorem flat_count (L : List (List UInt8)) : L.length ≤ (L.flatMap wrapL).length := by
  induction L with
  | nil => simp
  | cons a r ih => rw [List.flatMap_cons, List.length_append, List.length_cons]; have := (wrap_ge _ a (Nat.le_refl _)).2; omega

set_option maxRecDepth 100000 in
set_option maxHeartbeats 3200000 in
theorem fonly_any (w : World) (m : Int) (hm : w.cell? ⟨4, 0, none⟩ = some (.int .i64 m)) (s : List UInt8) (hs : s.length ≤ 1048576) :
    Calls Tryd.prog 4 #[.string (str s)] w fun e w' => e = .returned (.bool true) ∧ Below w.heap.size w w' := by
  have HM := Lib.hid hm
  have hml : 4 < w.heap.size := World.block_lt_of_cell? w _ hm
  clear hm
  go_enter Tryd.func4, Tryd.ntmps4
  go_wp2_with fail
  (with_reducible refine (unwrap_any _ s (by omega)).mono ?_)
  rintro e w1 ⟨v, er, rfl, hb1, hcase⟩
  have HB1 := Lib.hid hb1
  have HM1 : Hid (w1.cell? ⟨4, 0, none⟩ = some (.int .i64 m)) := (hb1.cell (p := ⟨4, 0, none⟩) hml).trans HM.out
  have hz1 := hb1.size
  clear hb1
  rcases hcase with ⟨L, hR, rfl, hsl, hf⟩ | ⟨hR, rfl, rfl⟩
  · have hmod : s.length % 128 = 0 := Classical.byContradiction fun h => by unfold unwR at hR; rw [if_neg h] at hR; cases hR
    have hT : s = L.flatMap wrapL := by
      unfold unwR at hR
      rw [if_pos hmod] at hR
      exact (unw_back _ s [] false L (Nat.le_refl _) hmod hR).1 rfl rfl
    have HT := Lib.hid hT
    have hLn : L.length ≤ 1048576 := by have := flat_count L; rw [← hT] at this; omega
    have HFL : Hid (∀ j, ((L.take j).flatMap wrapL).length ≤ 1048576) := fun j => by have := flat_len L j; rw [← hT] at this; omega
    have HML : Hid (∀ x ∈ L, x.length ≤ 1048576) := fun x hx => by have := flat_mem_len hx; rw [← hT] at this; omega
    have HALL : Hid ((L.take L.length).flatMap wrapL = s) := by show _ = _; rw [List.take_length, ← hT]
    have HSL := Lib.hid hsl.rd
    obtain ⟨A, cap, rfl, hnc, hcap⟩ := hsl.form
    unfold maxLen at hcap
    clear hsl hf hR hT hmod
    generalize hn : L.length = n at *
    have HN := Lib.hid hn
    clear hn
    go_wp2_with fail
    go_loopw [5, 23] (fun tv iv wx => ∃ j : Nat, j ≤ n ∧ iv = .int .i64 j ∧ tv = .string (str ((L.take j).flatMap wrapL)) ∧ Below w1.heap.size w1 wx) (fun _ iv _ => n - (intOf iv).toNat)
    case atStart => exact ⟨0, Nat.zero_le _, rfl, rfl, Below.refl _ _⟩
    case round =>
      obtain ⟨j, hj, rfl, rfl, hb⟩ := hrel
      have HB := Lib.hid hb
      have hsz := hb.size
      by_cases hlt : j < n
      · obtain ⟨b, off, rfl, hbb, hc⟩ := strs_at HSL.out HN.out hlt
        rw [← hb.cell (p := ⟨b, off + j, none⟩) hbb] at hc
        have hstep := flat_take_succ L (j := j) (by rw [HN.out]; exact hlt)
        have hxl : L[j]!.length ≤ 1048576 := HML.out _ (by rw [List.getElem!_eq_getElem?_getD, List.getElem?_eq_getElem (by rw [HN.out]; exact hlt)]; simp)
        have hl1 := HFL.out j
        have hl2 := HFL.out (j + 1)
        rw [hstep] at hl2
        have HST := Lib.hid hstep
        clear hb hstep
        generalize L[j]! = x at hc hxl HST hl2
        generalize (L.take j).flatMap wrapL = P at hl1 hl2 HST
        have eadd : ∀ w, (Op.stringOp .add (str P) (str (wrapL x))).run Tryd.prog w = .ok (.string (str (P ++ wrapL x))) w := fun w => by
          rw [List.length_append] at hl2
          rw [run_string_add_sum w _ _ (by rw [str_size, str_size]; omega), str_append]
        clear hl1 hl2
        go_wp2_with fail
        (with_reducible refine (wrap_any _ x (by omega)).mono ?_)
        rintro e w2 ⟨rfl, hb2⟩
        have HB2 : Hid (Below w1.heap.size w1 w2) := HB.out.trans (hb2.mono hsz)
        clear hb2 hc
        go_wp2_with fail
        go_roundw
        case rel => exact ⟨j + 1, by omega, by go_num, by rw [HST.out], HB2.out⟩
        case measure => simp [intOf]; omega
      · obtain rfl : j = n := by omega
        rw [HALL.out]
        have HMr : Hid (wr.cell? ⟨4, 0, none⟩ = some (.int .i64 m)) := (hb.cell (p := ⟨4, 0, none⟩) (by show 4 < w1.heap.size; omega)).trans HM1.out
        clear hb
        go_wp2_with fail
        (with_reducible refine (frames_true _ m HMr.out).mono ?_)
        rintro e w3 ⟨rfl, hb3⟩
        have HB3 : Hid (Below w.heap.size w w3) := HB1.out.trans ((HB.out.mono hz1).trans (hb3.mono (by omega)))
        clear hb3
        generalize str s = S
        go_wp2
        go_ret
        exact ⟨by simp, HB3.out⟩
  · clear hR
    go_wp2_with fail
    (with_reducible refine (frames_true _ m HM1.out).mono ?_)
    rintro e w3 ⟨rfl, hb3⟩
    have HB3 : Hid (Below w.heap.size w w3) := HB1.out.trans (hb3.mono hz1)
    clear hb3
    go_wp2
    go_ret
    exact ⟨rfl, HB3.out⟩
end Go.Proofs.YtkandepkojfblaaDoor
