/- FrameBack: the walk. -/
import Derived.Test.YtkandepkojfblaaDoorFOnlyW
namespace Go.Proofs.YtkandepkojfblaaDoor
open Go.RowKit

theorem wrap_mod : ∀ (n : Nat) (s : List UInt8), s.length ≤ n → (wrapL s).length % 128 = 0
  | 0, s, h => by rw [wrapL, dif_pos (by omega), frameOf_len (by omega)]
  | n + 1, s, h => by
    rw [wrapL]
    split
    · rename_i h1; rw [frameOf_len h1]
    · rename_i h1
      have := wrap_mod n (s.drop 126) (by rw [List.length_drop]; omega)
      rw [List.length_append, frameOf_len (by rw [List.length_take]; omega)]
      omega
theorem flat_mod : ∀ (L : List (List UInt8)), (L.flatMap wrapL).length % 128 = 0
  | [] => rfl
  | a :: r => by
    rw [List.flatMap_cons, List.length_append]
    have := wrap_mod _ a (Nat.le_refl _)
    have := flat_mod r
    omega
theorem wrap_le (s : List UInt8) : (wrapL s).length ≤ 128 * (s.length + 1) := wrapL_len _ s (Nat.le_refl _)
def totalL (L : List (List UInt8)) : Nat := (L.map fun s => s.length + 1).sum
theorem flat_total : ∀ (L : List (List UInt8)), (L.flatMap wrapL).length ≤ 128 * totalL L
  | [] => by simp [totalL]
  | a :: r => by
    rw [List.flatMap_cons, List.length_append]
    have h1 := wrap_le a
    have h2 := flat_total r
    have e : totalL (a :: r) = a.length + 1 + totalL r := by simp [totalL]
    rw [e]; omega
theorem total_mem {L : List (List UInt8)} {x : List UInt8} (h : x ∈ L) : x.length + 1 ≤ totalL L := by
  induction L with
  | nil => cases h
  | cons a r ih =>
    have e : totalL (a :: r) = a.length + 1 + totalL r := by simp [totalL]
    rw [List.mem_cons] at h
    rcases h with rfl | h
    · omega
    · have := ih h; omega
theorem total_len (L : List (List UInt8)) : L.length ≤ totalL L := by
  induction L with
  | nil => simp
  | cons a r ih =>
    have e : totalL (a :: r) = a.length + 1 + totalL r := by simp [totalL]
    rw [List.length_cons]; omega

set_option maxRecDepth 100000 in
set_option maxHeartbeats 3200000 in
theorem fback_any (w : World) (m : Int) (hm : w.cell? ⟨4, 0, none⟩ = some (.int .i64 m)) (n : Nat) (v : Value) (L : List (List UInt8)) (hL : Rd w w.heap.size 1 v n (strsV L)) (ht : totalL L ≤ 1048576) :
    Calls Tryd.prog 3 #[v] w fun e w' => e = .returned (.bool true) ∧ Below w.heap.size w w' := by
  have hn : L.length = n := by have := hL.1; rw [strsV_length] at this; omega
  obtain ⟨A, cap, rfl, hnc, hcap⟩ := hL.form
  have HM := Lib.hid hm
  have HLR := Lib.hid hL
  have hml : 4 < w.heap.size := World.block_lt_of_cell? w _ hm
  have hLn : n ≤ 1048576 := by have := total_len L; omega
  have HFL : Hid (∀ j, ((L.take j).flatMap wrapL).length ≤ 140000000) := fun j => by have := flat_len L j; have := flat_total L; omega
  have HML : Hid (∀ x ∈ L, x.length ≤ 1048576) := fun x hx => by have := total_mem hx; omega
  have HALL : Hid ((L.take n).flatMap wrapL = L.flatMap wrapL) := by show _ = _; rw [List.take_of_length_le (by omega)]
  have HUN : Hid (unwR (L.flatMap wrapL) = some L) := by show _ = _; unfold unwR; rw [if_pos (flat_mod L), unw_wraps]
  have HN := Lib.hid hn
  unfold maxLen at hcap
  clear hm hL ht hn
  go_enter Tryd.func3, Tryd.ntmps3
  go_wp2_with fail
  go_loopw [3, 4] (fun tv iv wx => ∃ j : Nat, j ≤ n ∧ iv = .int .i64 j ∧ tv = .string (str ((L.take j).flatMap wrapL)) ∧ Below w.heap.size w wx) (fun _ iv _ => n - (intOf iv).toNat)
  case atStart => exact ⟨0, Nat.zero_le _, rfl, rfl, Below.refl _ _⟩
  case round =>
    obtain ⟨j, hj, rfl, rfl, hb⟩ := hrel
    have HB := Lib.hid hb
    have hsz := hb.size
    by_cases hlt : j < n
    · obtain ⟨b, off, rfl, hbb, hc⟩ := strs_at HLR.out HN.out hlt
      rw [← hb.cell (p := ⟨b, off + j, none⟩) hbb] at hc
      have hbr : b < wr.heap.size := by omega
      have hstep := flat_take_succ L (j := j) (by rw [HN.out]; exact hlt)
      have hxl : L[j]!.length ≤ 1048576 := HML.out _ (by rw [List.getElem!_eq_getElem?_getD, List.getElem?_eq_getElem (by rw [HN.out]; exact hlt)]; simp)
      have hl1 := HFL.out j
      have hl2 := HFL.out (j + 1)
      rw [hstep] at hl2
      have HST := Lib.hid hstep
      clear hb hstep
      generalize L[j]! = x at hc hxl HST hl2
      generalize (L.take j).flatMap wrapL = P at hl1 hl2 HST
      have eadd : ∀ w, (Op.stringOp .add (str P) (str (wrapL x))).run Tryd.prog w = .ok (.string (str (P ++ wrapL x))) w := fun w => by
        rw [List.length_append] at hl2
        rw [run_string_add_sum w _ _ (by rw [str_size, str_size]; omega), str_append]
      have hwm := wrap_mod _ x (Nat.le_refl _)
      have hwg := (wrap_ge _ x (Nat.le_refl _)).1
      have HEA := Lib.hid eadd
      clear hl1 hl2 eadd
      go_wp2_with fail
      (with_reducible refine (wrap_any _ x (by omega)).mono ?_)
      rintro e w2 ⟨rfl, hb2⟩
      have HB2 : Hid (Below w.heap.size w w2) := HB.out.trans (hb2.mono hsz)
      have hc2 : w2.cell? ⟨b, off + j, none⟩ = some (.string (str x)) := (hb2.cell (p := ⟨b, off + j, none⟩) hbr).trans hc
      have hzw : ((str (wrapL x)).size : Int) = ((wrapL x).length : Int) := by rw [str_size]
      have hzx : ((str x).size : Int) = (x.length : Int) := by rw [str_size]
      have hmi : ((wrapL x).length : Int).tmod 128 = 0 := by rw [Int.tmod_eq_emod_of_nonneg (by omega)]; omega
      have hge : (x.length : Int) ≤ ((wrapL x).length : Int) := by omega
      have eadd := HEA.out
      clear hb2 hc hwm hwg
      go_wp2_with fail
      go_roundw
      case rel => exact ⟨j + 1, by omega, by go_num, by rw [HST.out], HB2.out⟩
      case measure => simp [intOf]; omega
    · obtain rfl : j = n := by omega
      rw [HALL.out]
      have HLr : Hid (Rd wr w.heap.size 1 (.slice A j cap) j (strsV L)) := HLR.out.below hb
      have hfl := HFL.out j
      rw [HALL.out] at hfl
      have HFL2 := Lib.hid hfl
      clear hb hfl
      go_wp2_with fail
      (with_reducible refine (unwrap_any _ (L.flatMap wrapL) (by have := HFL2.out; omega)).mono ?_)
      rintro e w2 ⟨v2, er, rfl, hb2, hcase⟩
      rcases hcase with ⟨L2, hR, rfl, hsl, hf⟩ | ⟨hR, _, _⟩
      · obtain rfl : L = L2 := by rw [HUN.out] at hR; exact Option.some.inj hR
        rw [HN.out] at hsl
        have HS2 : Hid (Rd w2 w2.heap.size 1 v2 j (strsV L)) := hsl.rd
        obtain ⟨A2, cap2, rfl, hnc2, hcap2⟩ := hsl.form
        unfold maxLen at hcap2
        have HB2 : Hid (Below w.heap.size w w2) := HB.out.trans (hb2.mono hsz)
        have HL2 : Hid (Rd w2 w.heap.size 1 (.slice A j cap) j (strsV L)) := HLr.out.below (hb2.mono hsz)
        have HM2 : Hid (w2.cell? ⟨4, 0, none⟩ = some (.int .i64 m)) := (HB2.out.cell (p := ⟨4, 0, none⟩) hml).trans HM.out
        have hz2 := HB2.out.size
        clear hsl hf hR hb2
        go_wp2_with fail
        (with_reducible refine (frames_true _ m HM2.out).mono ?_)
        rintro e w3 ⟨rfl, hb3⟩
        have HB3 : Hid (Below w.heap.size w w3) := HB2.out.trans (hb3.mono hz2)
        have HA3 : Hid (Rd w3 w2.heap.size 1 (.slice A2 j cap2) j (strsV L)) := HS2.out.below hb3
        have HL3 : Hid (Rd w3 w.heap.size 1 (.slice A j cap) j (strsV L)) := HL2.out.below (hb3.mono hz2)
        clear hb3
        go_wp2_with fail
        go_loopw [8] (fun iv wx => ∃ i d : Nat, i ≤ j ∧ iv = .int .i64 i ∧ wx = w3.drewN d) (fun iv _ => j - (intOf iv).toNat)
        case atStart => exact ⟨0, 0, Nat.zero_le _, rfl, rfl⟩
        case round =>
          obtain ⟨i, d, hi, rfl, rfl⟩ := hrel
          by_cases hlt2 : i < j
          · obtain ⟨b4, o4, rfl, hb4, hc4'⟩ := strs_at HA3.out HN.out hlt2
            obtain ⟨bw, ow, rfl, hbw, hcw'⟩ := strs_at HL3.out HN.out hlt2
            generalize str L[i]! = q at hc4' hcw'
            go_wp2_with fail
            go_quiet (fail)
            go_wp2_with fail
            go_roundw
            case rel => exact ⟨i + 1, _, by omega, by go_num, rfl⟩
            case measure => simp [intOf]; omega
          · obtain rfl : i = j := by omega
            go_wp2
            go_ret
            exact ⟨rfl, ⟨HB3.out.os, HB3.out.tape, HB3.out.output, HB3.out.size, HB3.out.block⟩⟩
      · rw [HUN.out] at hR; cases hR
end Go.Proofs.YtkandepkojfblaaDoor
