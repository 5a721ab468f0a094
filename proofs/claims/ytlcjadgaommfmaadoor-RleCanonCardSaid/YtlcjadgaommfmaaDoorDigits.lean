/- rule.digits, rule.Text: the walks. -/
import Derived.Test.YtlcjadgaommfmaaDoorMask
import Derived.Deep.RegionHeld3
namespace Go.Proofs.YtlcjadgaommfmaaDoor
open Go.RowKit

/-- The digits of a mask's bits below k. -/
def digs (m : Int) (k : Nat) : List UInt8 := ((List.range k).filter (bitB m)).map fun n => UInt8.ofNat (48 + n)
theorem digs_succ (m : Int) (k : Nat) : digs m (k + 1) = digs m k ++ (if bitB m k then [UInt8.ofNat (48 + k)] else []) := by
  unfold digs
  rw [List.range_succ, List.filter_append, List.map_append]
  cases h : bitB m k <;> simp [h]
theorem digs_len (m : Int) (k : Nat) : (digs m k).length ≤ k := by
  unfold digs; rw [List.length_map]; exact Nat.le_trans (List.length_filter_le _ _) (by simp)

def DigPost (w : World) (m : Int) (e : Ending) (w' : World) : Prop := e = .returned (.string (str (digs m 9))) ∧ Below w.heap.size w w'

set_option maxRecDepth 100000 in
set_option maxHeartbeats 1600000 in
theorem digits_any (w : World) (m : Int) (h0 : 0 ≤ m) (h1 : m < 512) :
    Calls Tryd.prog 39 #[.int .i64 m] w (DigPost w m) := by
  have HNIL := Lib.hid (Sl.nil w 5 1)
  go_enter Tryd.func39, Tryd.ntmps39
  go_wp2_with fail
  go_loopw [3, 5] (fun bv iv wx => ∃ k : Nat, k ≤ 9 ∧ iv = .int .i64 k ∧ Sl wx 5 1 bv (digs m k).length (bytesV (digs m k)) ∧ (∀ q, sblk bv = some q → w.heap.size ≤ q) ∧ Below w.heap.size w wx) (fun _ iv _ => 9 - (intOf iv).toNat)
  case atStart => exact ⟨0, by omega, rfl, HNIL.out, fun q hq => by simp [sblk] at hq, Below.refl _ _⟩
  case round =>
    obtain ⟨k, hk, rfl, hs, hf, hb⟩ := hrel
    have HS := Lib.hid hs
    have HF := Lib.hid hf
    have HB := Lib.hid hb
    have hz := hb.size
    clear hs hf hb
    by_cases hlt : (k : Int) < 9
    · have hbit : (bits .and .i64 (m / 2 ^ k) 1 == 1) = bitB m k := bit_ret m k h0 h1
      have HDS := Lib.hid (digs_succ m k)
      have HDL := Lib.hid (digs_len m k)
      generalize bitB m k = bt at hbit HDS
      cases bt
      · go_wp2_with fail
        go_roundw
        case rel => exact ⟨k + 1, by omega, by go_num, by rw [HDS.out]; simpa using HS.out, HF.out, HB.out⟩
        case measure => simp [intOf]; omega
      · have hch : ((UInt8.ofNat (48 + k)).toNat : Int) = 48 + (k : Int) := by
          rw [UInt8.toNat_ofNat']; omega
        have HRD : Hid (Rd (wr.alloc (.cells #[.int .u8 (48 + (k : Int))] 5)) (wr.heap.size + 1) 1 (.slice (some ⟨wr.heap.size, 0, none⟩) 1 1) 1 (bytesV [UInt8.ofNat (48 + k)])) := by
          have := fresh_byte wr (UInt8.ofNat (48 + k))
          rwa [hch] at this
        have hdl := HDL.out
        clear hch
        go_wp2_with (at_builtin; refine wpList_append_sl _ rfl (.tmp 14) (.tmp 18) 54 rfl 5 (.int .u8 0) 1 1 Tryd.underlying54 Tryd.info5 rfl (by decide) rfl (by exact HS.out.alloc _) rfl (by exact HRD.out) bytesV_one (by omega) (by unfold maxLen; omega) ?_; intro v5 w5 hs5 hm5 hd5)
        obtain ⟨f1, f2⟩ := fresh_of (w := w) (v := u3) (by exact hm5) (by exact hd5) (HB.out.alloc hz _) HF.out
        have HS5 : Hid (Sl w5 5 1 v5 (digs m (k + 1)).length (bytesV (digs m (k + 1)))) := by
          show Sl _ _ _ _ _ _
          rw [HDS.out, if_pos rfl, List.length_append, bytesV_append]; exact hs5
        have HF1 := Lib.hid f1
        have HF2 := Lib.hid f2
        clear hs5 hm5 hd5 f1 f2
        go_wp2
        go_roundw
        case rel => exact ⟨k + 1, by omega, by go_num, HS5.out, HF1.out, HF2.out⟩
        case measure => simp [intOf]; omega
    · obtain rfl : k = 9 := by omega
      have hcv := run_bytes_str (w := wr) 54 9 5 Tryd.underlying54 Tryd.underlying5 Tryd.underlying9 HS.out.rd
      go_wp2
      go_ret
      exact ⟨rfl, HB.out⟩
end Go.Proofs.YtlcjadgaommfmaaDoor
