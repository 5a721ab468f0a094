/- rle: does it answer at all? -/
import Derived.Test.YtlcjadgaommfmaaDoorRlDec
import Derived.Test.YtlcjadgaommfmaaDoorSame
namespace Go.Proofs.YtlcjadgaommfmaaDoor
open Go.RowKit

def wlit : List UInt8 := [120, 32, 61, 32, 50, 44, 32, 121, 32, 61, 32, 50, 44, 32, 114, 117, 108, 101, 32, 61, 32, 66, 51, 54, 47, 83, 50, 51, 10, 98, 111, 36, 50, 111, 33]
set_option maxRecDepth 100000 in
theorem wlit_dec : decodeR readR wlit = ([(1, 0), (0, 1), (1, 1)], (72, 12), 0) := by decide +kernel
set_option maxRecDepth 100000 in
set_option maxHeartbeats 1600000 in
theorem writes_true (w : World) (m : Int) (hm : w.cell? ⟨0, 0, none⟩ = some (.int .i64 m)) :
    Calls Tryd.prog 7 #[] w fun e w' => e = .returned (.bool true) ∧ Below w.heap.size w w' := by
  have HD : Hid (Calls Tryd.prog 6 #[.string ⟨#[120, 32, 61, 32, 50, 44, 32, 121, 32, 61, 32, 50, 44, 32, 114, 117, 108, 101, 32, 61, 32, 66, 51, 54, 47, 83, 50, 51, 10, 98, 111, 36, 50, 111, 33]⟩] w (DecPost w wlit)) := decode_any w m hm wlit (by decide)
  unfold DecPost at HD
  rw [wlit_dec] at HD
  dsimp only at HD
  clear hm
  go_enter Tryd.func7, Tryd.ntmps7
  go_wp2_with fail
  (with_reducible refine HD.out.mono ?_)
  rintro e w1 ⟨v, rfl, hv, hnew, hb1⟩
  have HV := Lib.hid hv
  have HB1 := Lib.hid hb1
  have hx := Blk.new w1 24 #[.int .i64 72, .int .i64 12]
  have x0 := hx.cellS (i := 0) rfl
  clear hv hb1 hx
  have HR1 : Hid (Rd ((w1.alloc (.cells #[.int .i64 72, .int .i64 12] 24)).alloc (.cells #[.int .i64 1, .int .i64 0, .int .i64 0, .int .i64 1, .int .i64 1, .int .i64 1] 50)) _ 2 v 3 (flat [(1, 0), (0, 1), (1, 1)])) := ((HV.out.alloc _).alloc _).rd
  have HR2 : Hid (Rd ((w1.alloc (.cells #[.int .i64 72, .int .i64 12] 24)).alloc (.cells #[.int .i64 1, .int .i64 0, .int .i64 0, .int .i64 1, .int .i64 1, .int .i64 1] 50)) (w1.heap.size + 1 + 1) 2 (.slice (some ⟨w1.heap.size + 1, 0, none⟩) 3 3) 3 (flat [(1, 0), (0, 1), (1, 1)])) := by
    have := fresh_cells (w1.alloc (.cells #[.int .i64 72, .int .i64 12] 24)) [(1, 0), (0, 1), (1, 1)] 3 rfl (by unfold maxLen; omega)
    rw [World.size_alloc] at this
    exact this
  have HB2 : Hid (Below w.heap.size w ((w1.alloc (.cells #[.int .i64 72, .int .i64 12] 24)).alloc (.cells #[.int .i64 1, .int .i64 0, .int .i64 0, .int .i64 1, .int .i64 1, .int .i64 1] 50))) := (HB1.out.alloc HB1.out.size _).alloc (by have := HB1.out.size; rw [World.size_alloc]; omega) _
  go_wp2_with fail
  (with_reducible refine (same_true _ _ _ 3 _ _ [(1, 0), (0, 1), (1, 1)] HR1.out HR2.out).mono ?_)
  rintro e w2 ⟨rfl, d, rfl⟩
  go_wp2
  go_ret
  exact ⟨rfl, below_drewN HB2.out _⟩
end Go.Proofs.YtlcjadgaommfmaaDoor
