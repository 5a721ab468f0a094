/- strconv.FormatUint(., 16) and keys.mix. -/
import Derived.Test.YtfoipadgicjcaaaDoorHex
namespace Go.Proofs.YtfoipadgicjcaaaDoor
open Go.RowKit

/-- What FormatUint(., 16) answers. -/
def HexPost (w : World) (e : Ending) (w' : World) : Prop :=
  ∃ s : List UInt8, e = .returned (.string (str s)) ∧ (1 ≤ s.length ∧ s.length ≤ 16) ∧ (∀ c ∈ s, hexC c) ∧ Below w.heap.size w w'

set_option maxRecDepth 100000 in
theorem fmt_in (w : World) (u : Int) (h0 : 0 ≤ u) (h1 : u < 18446744073709551616) (h : w.cell? ⟨5, 15, none⟩ = some (.int .u8 4)) :
    Calls Tryd.prog 28 #[.int .u64 u, .int .i64 16] w (HexPost w) := by
  have H := Lib.hid h
  clear h
  go_enter Tryd.func28, Tryd.ntmps28
  go_wp2_with fail
  (with_reducible refine (format_bits _ u h0 h1 H.out).mono ?_)
  rintro e w' ⟨s, rfl, hl, hx, hb⟩
  have HR : Hid (HexPost w (.returned (.string (str s))) w') := ⟨s, rfl, hl, hx, hb⟩
  clear hl hx hb
  go_wp2
  go_ret
  exact HR.out
set_option maxRecDepth 100000 in
theorem fmt (w : World) (u : Int) (h0 : 0 ≤ u) (h1 : u < 18446744073709551616) (h : w.cell? ⟨5, 15, none⟩ = some (.int .u8 4)) :
    Calls Tryd.prog 21 #[.int .u64 u, .int .i64 16] w (HexPost w) := by
  have H := Lib.hid h
  clear h
  go_enter Tryd.func21, Tryd.ntmps21
  go_wp2_with fail
  (with_reducible refine (fmt_in _ u h0 h1 H.out).mono ?_)
  rintro e w' ⟨s, rfl, hl, hx, hb⟩
  have HR : Hid (HexPost w (.returned (.string (str s))) w') := ⟨s, rfl, hl, hx, hb⟩
  clear hl hx hb
  go_wp2
  go_ret
  exact HR.out
theorem xor_range (X d : Int) (hd : 0 < d) : 0 ≤ bits .xor .u64 (IntKind.u64.wrap X) (IntKind.u64.wrap X / d) ∧ bits .xor .u64 (IntKind.u64.wrap X) (IntKind.u64.wrap X / d) < 18446744073709551616 := by
  have h0 : 0 ≤ IntKind.u64.wrap X := by rw [IntKind.wrap_u64]; omega
  have h1 : IntKind.u64.wrap X < 18446744073709551616 := by rw [IntKind.wrap_u64]; omega
  generalize IntKind.u64.wrap X = x at *
  obtain ⟨n, rfl⟩ := Int.eq_ofNat_of_zero_le h0
  obtain ⟨m, rfl⟩ := Int.eq_ofNat_of_zero_le (Int.le_of_lt hd)
  rw [xorShift_u64 n m (by omega)]
  have : n ^^^ n / m < 2 ^ 64 := Nat.xor_lt_two_pow (by omega) (Nat.lt_of_le_of_lt (Nat.div_le_self _ _) (by omega))
  omega
set_option maxRecDepth 100000 in
theorem mix_any (w : World) (a b : Int) :
    Calls Tryd.prog 22 #[.int .i64 a, .int .i64 b] w fun e w' => ∃ u, e = .returned (.int .u64 u) ∧ 0 ≤ u ∧ u < 18446744073709551616 ∧ w = w' := by
  go_enter Tryd.func22, Tryd.ntmps22
  go_wp2
  go_ret
  exact ⟨_, rfl, (xor_range _ 2147483648 (by omega)).1, (xor_range _ 2147483648 (by omega)).2, rfl⟩
end Go.Proofs.YtfoipadgicjcaaaDoor
