/- speech.Keyed: the walk, at every string. -/
import Derived.Test.YtkandepkojfblaaDoorSpNamed
namespace Go.Proofs.YtkandepkojfblaaDoor
open Go.RowKit

def keyB (c : UInt8) : Bool := lowC c || digC c
theorem keyedW_eq (s : List UInt8) : keyedW s = (decide (2 ≤ s.length ∧ s.length ≤ 41) && decide (s.head? = some 33) && (s.drop 1).all keyB) := rfl
theorem drop_step {f : UInt8 → Bool} {s : List UInt8} {i : Nat} (h1 : 1 ≤ i) (hi : i < s.length) (h : ((s.take i).drop 1).all f = true) (hc : f (s[i]) = true) : ((s.take (i + 1)).drop 1).all f = true := by
  rw [List.take_succ_eq_append_getElem hi, List.drop_append_of_le_length (by rw [List.length_take]; omega), List.all_append, h]
  simp [hc]
theorem drop_fail {f : UInt8 → Bool} {s : List UInt8} {i : Nat} (h1 : 1 ≤ i) (hi : i < s.length) (hc : f (s[i]) = false) : (s.drop 1).all f = false := by
  rw [List.all_eq_false]
  refine ⟨s[i], List.mem_iff_getElem.2 ⟨i - 1, by rw [List.length_drop]; omega, ?_⟩, by rw [hc]; simp⟩
  rw [List.getElem_drop]
  congr 1
  omega

set_option maxRecDepth 100000 in
set_option maxHeartbeats 3200000 in
theorem keyedS_any (w : World) (s : List UInt8) (hl : s.length ≤ 4294967296) :
    Calls Tryd.prog 46 #[.string (str s)] w fun e w' => e = .returned (.bool (keyedW s)) ∧ w = w' := by
  have hz : ((str s).size : Int) = (s.length : Int) := by rw [str_size]
  have hlb : (s.length : Int) ≤ 4294967296 := by omega
  by_cases h1 : s.length < 2
  · have HF : Hid (keyedW s = false) := by show keyedW s = false; rw [keyedW_eq, decide_eq_false (by omega)]; rfl
    have h1' : (s.length : Int) < 2 := by omega
    clear h1
    go_enter Tryd.func46, Tryd.ntmps46
    go_wp2_with fail
    go_ret
    exact ⟨by rw [HF.out]; rfl, rfl⟩
  by_cases h2 : 41 < s.length
  · have HF : Hid (keyedW s = false) := by show keyedW s = false; rw [keyedW_eq, decide_eq_false (by omega)]; rfl
    have h2' : 41 < (s.length : Int) := by omega
    clear h1 h2
    go_enter Tryd.func46, Tryd.ntmps46
    go_wp2_with fail
    go_ret
    exact ⟨by rw [HF.out]; rfl, rfl⟩
  have hi0 : (Instr.index 9 (.string (str s)) (.int .i64 0)).run Tryd.prog w = .ok (.int .u8 ((s[0]'(by omega)).toNat : Int)) w := by
    rw [run_index_string w _ _ _ _ Tryd.underlying9, dif_pos ⟨by omega, by rw [hz]; omega⟩]
    rfl
  have hh : s.head? = some (s[0]'(by omega)) := by cases s with
    | nil => simp at h1
    | cons a r => rfl
  have HLEN : Hid (decide (2 ≤ s.length ∧ s.length ≤ 41) = true) := decide_eq_true (by omega)
  have HB := Lib.hid (And.intro h1 h2)
  have hb1 : ¬ ((s.length : Int) < 2) := by omega
  have hb2 : ¬ (41 < (s.length : Int)) := by omega
  by_cases h3 : s[0]'(by omega) = 33
  · rw [h3] at hi0 hh
    have HH : Hid (decide (s.head? = some 33) = true) := decide_eq_true hh
    have hi1 : (Instr.index 9 (.string (str s)) (.int .i64 0)).run Tryd.prog w = .ok (.int .u8 33) w := hi0
    clear hi0 hh h3 h1 h2
    go_enter Tryd.func46, Tryd.ntmps46
    go_wp2_with fail
    go_loopw [3] (fun iv wx => ∃ i : Nat, iv = .int .i64 i ∧ 1 ≤ i ∧ i ≤ s.length ∧ ((s.take i).drop 1).all keyB = true ∧ wx = w) (fun iv _ => s.length - (intOf iv).toNat)
    case atStart => exact ⟨1, rfl, Nat.le_refl _, by have := HB.out; omega, by rw [List.drop_of_length_le (by rw [List.length_take]; omega)]; rfl, rfl⟩
    case round =>
      obtain ⟨i, rfl, hi1', hi2, ha, rfl⟩ := hrel
      clear hi1
      by_cases hin : i < s.length
      · have hlt : (i : Int) < (s.length : Int) := by omega
        have hidx : (Instr.index 9 (.string (str s)) (.int .i64 (i : Int))).run Tryd.prog wr = .ok (.int .u8 ((s[i]).toNat : Int)) wr := by
          rw [run_index_string wr _ _ _ _ Tryd.underlying9, dif_pos ⟨by omega, by rw [hz]; omega⟩]
          rfl
        have hwi : IntKind.i64.wrap ((i : Int) + 1) = (i : Int) + 1 := by rw [IntKind.wrap_i64]; omega
        have HA := Lib.hid (fun hc => drop_step hi1' hin ha (f := keyB) hc)
        have HF := Lib.hid (fun hc => drop_fail hi1' hin (f := keyB) hc)
        have HIN := Lib.hid (And.intro hi1' hin)
        generalize s[i] = c at HA HF hidx
        clear ha hin hi1' hi2
        by_cases k : keyB c = true
        · have HK := Lib.hid k
          have k' : (97 ≤ c.toNat ∧ c.toNat ≤ 122) ∨ (48 ≤ c.toNat ∧ c.toNat ≤ 57) := by simpa [keyB, lowC, digC] using k
          clear k
          rcases k' with ⟨k1, k2⟩ | ⟨k1, k2⟩
          · have q1 : ¬ ((c.toNat : Int) < 97) := by omega
            have q2 : ¬ (122 < (c.toNat : Int)) := by omega
            clear k1 k2
            go_wp2_with fail
            refine ⟨⟨i + 1, by go_num, by omega, HIN.out.2, HA.out HK.out, trivial⟩, ?_⟩
            simp [intOf]; have := HIN.out; omega
          · have q1 : (c.toNat : Int) < 97 := by omega
            have q2 : ¬ ((c.toNat : Int) < 48) := by omega
            have q3 : ¬ (57 < (c.toNat : Int)) := by omega
            clear k1 k2
            go_wp2_with fail
            refine ⟨⟨i + 1, by go_num, by omega, HIN.out.2, HA.out HK.out, trivial⟩, ?_⟩
            simp [intOf]; have := HIN.out; omega
        · have HK := Lib.hid (show keyB c = false by simpa using k)
          have k' : ¬ ((97 ≤ c.toNat ∧ c.toNat ≤ 122) ∨ (48 ≤ c.toNat ∧ c.toNat ≤ 57)) := by simpa [keyB, lowC, digC] using k
          clear k
          by_cases q1 : (c.toNat : Int) < 97
          · by_cases q2 : (c.toNat : Int) < 48
            · clear k'
              go_wp2_with fail
              go_ret
              exact ⟨by rw [keyedW_eq, HF.out HK.out, Bool.and_false]; rfl, rfl⟩
            · have q3 : 57 < (c.toNat : Int) := by omega
              clear k'
              go_wp2_with fail
              go_ret
              exact ⟨by rw [keyedW_eq, HF.out HK.out, Bool.and_false]; rfl, rfl⟩
          · have q2 : 122 < (c.toNat : Int) := by omega
            have q3 : ¬ ((c.toNat : Int) < 48) := by omega
            have q4 : 57 < (c.toNat : Int) := by omega
            clear k'
            go_wp2_with fail
            go_ret
            exact ⟨by rw [keyedW_eq, HF.out HK.out, Bool.and_false]; rfl, rfl⟩
      · have hge : (s.length : Int) ≤ (i : Int) := by omega
        rw [List.take_of_length_le (by omega)] at ha
        have HAA := Lib.hid ha
        clear ha
        go_wp2_with fail
        go_ret
        exact ⟨by rw [keyedW_eq, HLEN.out, HH.out, HAA.out]; rfl, rfl⟩
  · have HH : Hid (decide (s.head? = some 33) = false) := decide_eq_false (by rw [hh]; exact fun e => h3 (Option.some.inj e))
    have hne : ((s[0]'(by omega)).toNat : Int) ≠ 33 := fun e => h3 (UInt8.toNat_inj.1 (by show (s[0]'(by omega)).toNat = 33; omega))
    generalize s[0]'(by omega) = c at hi0 hne
    have hnb : ((c.toNat : Int) == 33) = false := beq_eq_false_iff_ne.2 hne
    clear hh h3 h1 h2 hne
    go_enter Tryd.func46, Tryd.ntmps46
    go_wp2_with fail
    go_ret
    exact ⟨by rw [keyedW_eq, HLEN.out, HH.out]; rfl, rfl⟩
end Go.Proofs.YtkandepkojfblaaDoor
