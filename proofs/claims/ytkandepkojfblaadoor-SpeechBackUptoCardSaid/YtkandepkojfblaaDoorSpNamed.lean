/- speech.Named, speech.Keyed: the walks. -/
import Derived.Test.YtkandepkojfblaaDoorSpSplit
import Derived.Test.YtkandepkojfblaaDoorLaw
namespace Go.Proofs.YtkandepkojfblaaDoor
open Go.RowKit

theorem all_step {f : UInt8 → Bool} {s : List UInt8} {i : Nat} (hi : i < s.length) (h : (s.take i).all f = true) (hc : f (s[i]) = true) : (s.take (i + 1)).all f = true := by
  rw [List.take_succ_eq_append_getElem hi, List.all_append, h]
  simp [hc]
theorem all_fail {f : UInt8 → Bool} {s : List UInt8} {i : Nat} (hi : i < s.length) (hc : f (s[i]) = false) : s.all f = false := by
  rw [List.all_eq_false]
  exact ⟨s[i], List.getElem_mem hi, by rw [hc]; simp⟩
theorem str_ne_nil (s : List UInt8) : (str s).toList.isEmpty = s.isEmpty := by rw [str_toList]

set_option maxRecDepth 100000 in
set_option maxHeartbeats 3200000 in
theorem named_any (w : World) (s : List UInt8) (hl : s.length ≤ 4294967296) :
    Calls Tryd.prog 44 #[.string (str s)] w fun e w' => e = .returned (.bool (namedW s)) ∧ w = w' := by
  have hz : ((str s).size : Int) = (s.length : Int) := by rw [str_size]
  have hlb : (s.length : Int) ≤ 4294967296 := by omega
  have HNE := Lib.hid (str_ne_nil s)
  go_enter Tryd.func44, Tryd.ntmps44
  go_wp2_with fail
  go_loopw [3] (fun iv wx => ∃ i : Nat, iv = .int .i64 i ∧ i ≤ s.length ∧ (s.take i).all lowC = true ∧ wx = w) (fun iv _ => s.length - (intOf iv).toNat)
  case atStart => exact ⟨0, rfl, Nat.zero_le _, rfl, rfl⟩
  case round =>
    obtain ⟨i, rfl, hi2, ha, rfl⟩ := hrel
    by_cases hin : i < s.length
    · have hlt : (i : Int) < (s.length : Int) := by omega
      have hidx : (Instr.index 9 (.string (str s)) (.int .i64 (i : Int))).run Tryd.prog wr = .ok (.int .u8 ((s[i]).toNat : Int)) wr := by
        rw [run_index_string wr _ _ _ _ Tryd.underlying9, dif_pos ⟨by omega, by rw [hz]; omega⟩]
        rfl
      have hwi : IntKind.i64.wrap ((i : Int) + 1) = (i : Int) + 1 := by rw [IntKind.wrap_i64]; omega
      have HA := Lib.hid (fun hc => all_step hin ha (f := lowC) hc)
      have HF := Lib.hid (fun hc => all_fail hin (f := lowC) hc)
      have HIN := Lib.hid hin
      generalize s[i] = c at HA HF hidx
      clear ha hin
      by_cases k1 : (c.toNat : Int) < 97
      · have HL : Hid (lowC c = false) := decide_eq_false (by omega)
        go_wp2_with fail
        go_ret
        exact ⟨by rw [namedW, HF.out HL.out]; rfl, rfl⟩
      · by_cases k2 : 122 < (c.toNat : Int)
        · have HL : Hid (lowC c = false) := decide_eq_false (by omega)
          go_wp2_with fail
          go_ret
          exact ⟨by rw [namedW, HF.out HL.out]; rfl, rfl⟩
        · have HL : Hid (lowC c = true) := decide_eq_true (by omega)
          go_wp2_with fail
          refine ⟨⟨i + 1, by go_num, HIN.out, HA.out HL.out, trivial⟩, ?_⟩
          simp [intOf]; have := HIN.out; omega
    · have hge : (s.length : Int) ≤ (i : Int) := by omega
      rw [List.take_of_length_le (by omega)] at ha
      have HAA := Lib.hid ha
      have hne := HNE.out
      clear ha
      cases he : s.isEmpty
      · rw [he] at hne
        have HE := Lib.hid he
        clear he
        by_cases h12 : (s.length : Int) ≤ 12
        · have HD : Hid (decide (s.length ≤ 12) = true) := decide_eq_true (by omega)
          go_wp2_with fail
          go_ret
          exact ⟨by rw [namedW, HAA.out, HE.out, HD.out]; rfl, rfl⟩
        · have HD : Hid (decide (s.length ≤ 12) = false) := decide_eq_false (by omega)
          go_wp2_with fail
          go_ret
          exact ⟨by rw [namedW, HAA.out, HE.out, HD.out]; rfl, rfl⟩
      · rw [he] at hne
        have HE := Lib.hid he
        clear he
        go_wp2_with fail
        go_ret
        exact ⟨by rw [namedW, HAA.out, HE.out]; rfl, rfl⟩
end Go.Proofs.YtkandepkojfblaaDoor
