/- speech.Keyed: the walk. -/
import Derived.Test.YtfoipadgicjcaaaDoorFind
namespace Go.Proofs.YtfoipadgicjcaaaDoor
open Go.RowKit

/-- A byte that a key may have behind its first. -/
def keyC (c : UInt8) : Prop := (97 ≤ c.toNat ∧ c.toNat ≤ 122) ∨ (48 ≤ c.toNat ∧ c.toNat ≤ 57)
theorem str_get (l : List UInt8) (i : Nat) (h : i < (str l).size) : (str l)[i] = l[i]'(by rw [str_size] at h; exact h) := rfl

set_option maxRecDepth 100000 in
set_option maxHeartbeats 3200000 in
theorem keyed_any (w : World) (s : List UInt8) (h1 : 2 ≤ s.length) (h2 : s.length ≤ 41) (h0 : s[0]'(by omega) = 33) (hs : ∀ (j : Nat) c, 1 ≤ j → s[j]? = some c → keyC c) :
    Calls Tryd.prog 11 #[.string (str s)] w fun e w' => e = .returned (.bool true) ∧ w = w' := by
  have HS := Lib.hid hs
  have hz : ((str s).size : Int) = (s.length : Int) := by rw [str_size]
  have hi0 : (Instr.index 9 (.string (str s)) (.int .i64 0)).run Tryd.prog w = .ok (.int .u8 33) w := by
    rw [run_index_string w _ _ _ _ Tryd.underlying9, dif_pos ⟨by omega, by rw [hz]; omega⟩]
    have : (str s)[(0 : Int).toNat]'(by rw [str_size]; show 0 < _; omega) = 33 := h0
    rw [this]; rfl
  clear hs h0
  go_enter Tryd.func11, Tryd.ntmps11
  go_wp2_with fail
  go_loopw [3] (fun iv wx => ∃ i : Nat, iv = .int .i64 i ∧ 1 ≤ i ∧ i ≤ s.length ∧ wx = w) (fun iv _ => s.length - (intOf iv).toNat)
  case atStart => exact ⟨1, rfl, Nat.le_refl _, by omega, rfl⟩
  case round =>
    obtain ⟨i, rfl, hi1, hi2, rfl⟩ := hrel
    by_cases hin : i < s.length
    · have hlt : (i : Int) < (s.length : Int) := by omega
      have hki := HS.out i (s[i]) hi1 (List.getElem?_eq_getElem hin)
      have hidx : (Instr.index 9 (.string (str s)) (.int .i64 (i : Int))).run Tryd.prog wr = .ok (.int .u8 ((s[i]).toNat : Int)) wr := by
        rw [run_index_string wr _ _ _ _ Tryd.underlying9, dif_pos ⟨by omega, by rw [hz]; omega⟩]
        rfl
      have hwi : IntKind.i64.wrap ((i : Int) + 1) = (i : Int) + 1 := by rw [IntKind.wrap_i64]; omega
      generalize s[i] = c at hki hidx
      clear hi0
      rcases hki with ⟨k1, k2⟩ | ⟨k1, k2⟩
      · have q1 : ¬ ((c.toNat : Int) < 97) := by omega
        have q2 : ¬ (122 < (c.toNat : Int)) := by omega
        go_wp2_with fail
        refine ⟨⟨i + 1, by go_num, by omega, by omega, trivial⟩, ?_⟩
        simp [intOf]; omega
      · have q1 : (c.toNat : Int) < 97 := by omega
        have q2 : ¬ ((c.toNat : Int) < 48) := by omega
        have q3 : ¬ (57 < (c.toNat : Int)) := by omega
        go_wp2_with fail
        refine ⟨⟨i + 1, by go_num, by omega, by omega, trivial⟩, ?_⟩
        simp [intOf]; omega
    · have hge : (s.length : Int) ≤ (i : Int) := by omega
      go_wp2_with fail
      go_ret
      exact ⟨rfl, rfl⟩
end Go.Proofs.YtfoipadgicjcaaaDoor
