/- lifelodgekeep: which thing a number means, in played. -/
import Derived.Test.YtfoipadgicjcaaaRoomW
namespace Go.Proofs.Ytfoipadgicjcaaa
open Go.RowKit

set_option maxRecDepth 100000 in
set_option maxHeartbeats 3200000 in
theorem playid_any (w : World) (x : Int) (hx : i64r x) (mb tb : Nat) (sv : Nat → Value) (M : Nat → List Int) (h : MadeM w mb sv M) (t : Nat) (ht : t < 4) (htb : w.cell? ⟨tb, 0, none⟩ = some (.int .i64 t)) (hlen : (M t).length ≤ 1000) :
    Calls Try.prog 48 #[.int .i64 x, .pointer (some ⟨mb, 0, none⟩), .pointer (some ⟨tb, 0, none⟩)] w fun e w' => e = .returned (.int .i64 (pickId (M t) x)) ∧ w = w' := by
  have c0 := h.at ht
  obtain ⟨A, cap, hsv, hc1, hc2⟩ := (h.sl t ht).form
  have hsl := h.sl t ht
  rw [hsv] at c0 hsl
  have k4 : (t : Int) < 4 := by omega
  obtain ⟨hx1, hx2⟩ := hx
  have HX1 := Lib.hid hx1
  have HX2 := Lib.hid hx2
  have HSL := Lib.hid hsl
  generalize hL : (M t).length = n at *
  have HP : Hid (pickId (M t) x = if x % ((n : Int) + 2) < 2 then x % ((n : Int) + 2) else (M t).getD (x % ((n : Int) + 2) - 2).toNat 0) := by show _ = _; unfold pickId; rw [hL]
  have HN := Lib.hid hL
  have HLEN := Lib.hid hlen
  have hwn : wrap64 ((n : Int) + 2) = (n : Int) + 2 := by unfold wrap64; omega
  have hwn2 : IntKind.i64.wrap ((n : Int) + 2) = (n : Int) + 2 := by rw [IntKind.wrap_i64]; omega
  clear h hsv hx1 hx2 hL hlen hsl hc1 hc2
  go_enter Try.func48, Try.ntmps48
  go_wp2_with fail
  (with_reducible refine (spot_any x ((n : Int) + 2) (by omega) (by have := HLEN.out; omega) HX1.out HX2.out w).mono ?_)
  rintro e wq ⟨rfl, rfl⟩
  have hm0 := Int.emod_nonneg x (show ((n : Int) + 2) ≠ 0 by omega)
  have hm1 := Int.emod_lt_of_pos x (show 0 < (n : Int) + 2 by omega)
  generalize hm : x % ((n : Int) + 2) = m at *
  clear hm
  by_cases hlt : m < 2
  · have HP2 : Hid (pickId (M t) x = m) := by show _ = _; rw [HP.out, if_pos hlt]
    go_wp2_with fail
    go_returns
    rw [HP2.out]
    trivial
  · obtain ⟨i, hi⟩ : ∃ i : Nat, m = (i : Int) + 2 := ⟨(m - 2).toNat, by omega⟩
    subst hi
    have hin : i < n := by omega
    obtain ⟨b, off, cap', hA, hc1, hc2, hlt2, hcell, hfr, _⟩ := HSL.out.at (by omega : 0 < n)
    cases hA
    have hlm : i < (M t).length := by rw [HN.out]; exact hin
    have hci : w.cell? ⟨b, off + i, none⟩ = some (.int .i64 ((M t)[i])) := by
      have := hcell i (.int .i64 ((M t)[i])) (by simp [intsV])
      simpa using this
    have HP2 : Hid (pickId (M t) x = (M t)[i]) := by
      show _ = _
      rw [HP.out, if_neg hlt]
      have : ((i : Int) + 2 - 2).toNat = i := by omega
      rw [this, List.getD_eq_getElem?_getD, List.getElem?_eq_getElem hlm]; rfl
    have HIN := Lib.hid hin
    have HC := Lib.hid hcell
    have hw3 : wrap64 (i : Int) = (i : Int) := by have := HLEN.out; unfold wrap64; omega
    have hb0 : ¬ ((i : Int) < 0) := Int.not_lt.2 (Int.natCast_nonneg i)
    have hb1 : (i : Int) < (n : Int) := Int.ofNat_lt.2 hin
    clear hcell hfr hin
    go_wp2_with fail
    go_returns
    rw [HP2.out]
    trivial
end Go.Proofs.Ytfoipadgicjcaaa
