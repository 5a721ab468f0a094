/- lifelodgekeep.opens: the walk. -/
import Derived.Test.YtfoipadgicjcaaaDoorFind
namespace Go.Proofs.YtfoipadgicjcaaaDoor
open Go.RowKit

set_option maxRecDepth 100000 in
set_option maxHeartbeats 3200000 in
theorem opens_any (w : World) (h : w.cell? ⟨5, 15, none⟩ = some (.int .u8 4)) :
    Calls Tryd.prog 7 #[] w fun e w' => e = .returned (.bool true) ∧ Below w.heap.size w w' := by
  have H := Lib.hid h
  have hnil : Rd w w.heap.size 3 (.slice none 0 0) 0 (keysV []) := ⟨rfl, _, _, rfl, Nat.le_refl _, Nat.zero_le _, fun h => absurd h (Nat.lt_irrefl _)⟩
  have HN := Lib.hid hnil
  clear h hnil
  go_enter Tryd.func7, Tryd.ntmps7
  go_wp2_with fail
  have hm := mint_any w 0 (by omega) [] (.slice none 0 0) HN.out ⟨#[97, 98]⟩ 1 5 ⟨by omega, by omega⟩ H.out
  rw [show ((0 : Nat) : Int) = 0 from rfl] at hm
  (with_reducible refine hm.mono ?_)
  rintro e w1 ⟨hh, v', hl, hc, rfl, hrd, _, hb⟩
  obtain ⟨A1, cap1, rfl, hz1, hz2⟩ := hrd.form
  have HR := Lib.hid hrd
  have HB := Lib.hid hb
  clear hl hc hrd hb
  go_wp2_with fail
  (with_reducible refine (find_any _ _ 1 (by omega) [⟨keyT 0 hh, ⟨#[97, 98]⟩, 1⟩] rfl _ w1.heap.size (by simp) ((HR.out.rd).below ((Below.refl _ _).alloc (Nat.le_refl _) _)) (str (keyT 0 hh)) 1).mono ?_)
  rintro e w2 ⟨name, x, hf, rfl, hb2⟩
  have HB2 : Hid (Below w.heap.size w w2) := (HB.out.alloc HB.out.size _).trans (hb2.mono (by rw [World.size_alloc]; have := HB.out.size; omega))
  clear hb2
  have hx : name = ⟨#[97, 98]⟩ ∧ x = 0 := by
    rcases hf with ⟨i, k, hk, _, _, h⟩ | ⟨h, _⟩
    · have hk' : k = ⟨keyT 0 hh, ⟨#[97, 98]⟩, 1⟩ := by
        cases i with
        | zero => exact (Option.some.inj hk).symm
        | succ i => simp at hk
      subst hk'
      rcases h with ⟨_, h1, h2⟩ | ⟨h0, _⟩
      · exact ⟨h1, h2⟩
      · exact absurd (show bits .and .i64 1 1 = 1 by decide +kernel) h0
    · exact absurd rfl (h 0 _ rfl)
  obtain ⟨rfl, rfl⟩ := hx
  go_wp2_with fail
  go_ret
  exact ⟨rfl, HB2.out⟩
end Go.Proofs.YtfoipadgicjcaaaDoor
