/- RuleBack, RuleOnly: the walks. -/
import Derived.Test.YtkandepkojfblaaTextP
import Derived.Test.YtkandepkojfblaaRuleLaw
namespace Go.Proofs.Ytkandepkojfblaa
open Go.RowKit

theorem run_eqRule (x y : Int) (w : World) : (binOp .eql 23 (.agg #[.int .i64 x, .int .i64 y]) (.agg #[.int .i64 x, .int .i64 y])).run Try.prog w = .ok (.bool true) w := by
  have hS : Try.prog.underlying 23 = some (.struct (Try.prog.fieldsOf 23)) := by kernel_rfl
  have hp : Try.prog.stoodInHeld 23 = false := by kernel_rfl
  have u3 := Try.underlying3
  have z3 := Try.sizeOf3
  have a3 := Try.isAgg3
  rw [run_eql_struct, show (10000 : Nat) = 9999 + 1 from rfl, run_equalIn_agg w 9999 _ _ _ hS hp]
  simp only [Program.fieldsOf, Try.underlying23]
  go_simp

set_option maxRecDepth 100000 in
set_option maxHeartbeats 1600000 in
theorem ruleBack_any (w : World) (b l : Int) (hb : -9223372036854775808 ≤ b ∧ b ≤ 9223372036854775807) (hl : -9223372036854775808 ≤ l ∧ l ≤ 9223372036854775807) :
    Calls Try.prog 4 #[.agg #[.int .i64 b, .int .i64 l]] w fun e w' => e = .returned (.bool true) ∧ Below w.heap.size w w' := by
  have HBB := Lib.hid hb
  have HLL := Lib.hid hl
  clear hb hl
  by_cases hg : goodR b l
  · have HG := Lib.hid hg
    have HRT := Lib.hid (read_text hg)
    clear hg
    go_enter Try.func4, Try.ntmps4
    go_wp2_with fail
    (with_reducible refine (text_good _ b l HG.out).mono ?_)
    rintro e w1 ⟨rfl, hb1⟩
    have hz1 := hb1.size
    rw [World.size_alloc] at hb1 hz1
    have HB1 : Hid (Below w.heap.size w w1) := ((Below.refl _ _).alloc (Nat.le_refl _) _).trans (hb1.mono (by omega))
    have HR1 : Hid (Blk w1 w.heap.size 23 #[.int .i64 b, .int .i64 l]) := (hb1.block _ (by omega)).trans (Blk.new w _ _)
    clear hb1 hz1
    go_wp2_with fail
    (with_reducible refine (read_any _ (textL b l)).mono ?_)
    rintro e w2 ⟨rfl, hb2⟩
    rw [HRT.out]
    dsimp only
    have HB2 : Hid (Below w.heap.size w w2) := HB1.out.trans (hb2.mono HB1.out.size)
    have HR2 : Hid (Blk w2 w.heap.size 23 #[.int .i64 b, .int .i64 l]) := (hb2.block _ HR1.out.lt).trans HR1.out
    clear hb2 HB1 HR1
    go_wp2_with fail
    generalize hw3 : World.alloc w2 _ = w3
    have HB3 : Hid (Below w.heap.size w w3) := by subst hw3; exact HB2.out.alloc HB2.out.size _
    have HR3 : Hid (Blk w3 w.heap.size 23 #[.int .i64 b, .int .i64 l]) := by subst hw3; exact HR2.out.alloc _
    have HX3 : Hid (Blk w3 w2.heap.size 23 #[.int .i64 b, .int .i64 l]) := by subst hw3; exact Blk.new w2 _ _
    clear hw3
    (with_reducible refine (lives_true _).mono ?_)
    rintro e w4 ⟨rfl, hb4⟩
    have HB4 : Hid (Below w.heap.size w w4) := HB3.out.trans (hb4.mono HB3.out.size)
    have hr4 := HR3.out.mod (Mod.of_below_all hb4) id
    have hx4 := HX3.out.mod (Mod.of_below_all hb4) id
    have c0 : w4.cell? ⟨w.heap.size, 0, none⟩ = some (.int .i64 b) := hr4.cellS rfl
    have c1 : w4.cell? ⟨w.heap.size, 1, none⟩ = some (.int .i64 l) := hr4.cellS rfl
    have d0 : w4.cell? ⟨w2.heap.size, 0, none⟩ = some (.int .i64 b) := hx4.cellS rfl
    have d1 : w4.cell? ⟨w2.heap.size, 1, none⟩ = some (.int .i64 l) := hx4.cellS rfl
    have hq : ∀ w, _ := fun w => run_eqRule b l w
    clear hb4 hr4 hx4
    go_wp2_with fail
    (with_reducible refine (good_true _ b l HG.out).mono ?_)
    rintro e w5 ⟨rfl, hb5⟩
    have HB5 : Hid (Below w.heap.size w w5) := HB4.out.trans (hb5.mono HB4.out.size)
    clear hb5 c0 c1 d0 d1 hq
    go_wp2
    go_ret
    exact ⟨rfl, HB5.out⟩
  · have HG := Lib.hid hg
    clear hg
    have HRT : Hid (readR [] = (0, 0, 2)) := rfl
    go_enter Try.func4, Try.ntmps4
    go_wp2_with fail
    (with_reducible refine (text_bad _ b l HBB.out HG.out).mono ?_)
    rintro e w1 ⟨rfl, hb1⟩
    have hz1 := hb1.size
    rw [World.size_alloc] at hb1 hz1
    have HB1 : Hid (Below w.heap.size w w1) := ((Below.refl _ _).alloc (Nat.le_refl _) _).trans (hb1.mono (by omega))
    have HR1 : Hid (Blk w1 w.heap.size 23 #[.int .i64 b, .int .i64 l]) := (hb1.block _ (by omega)).trans (Blk.new w _ _)
    clear hb1 hz1
    go_wp2_with fail
    (with_reducible refine (read_any _ []).mono ?_)
    rintro e w2 ⟨rfl, hb2⟩
    rw [HRT.out]
    dsimp only
    have HB2 : Hid (Below w.heap.size w w2) := HB1.out.trans (hb2.mono HB1.out.size)
    have HR2 : Hid (Blk w2 w.heap.size 23 #[.int .i64 b, .int .i64 l]) := (hb2.block _ HR1.out.lt).trans HR1.out
    clear hb2 HB1 HR1
    go_wp2_with fail
    generalize hw3 : World.alloc w2 _ = w3
    have HB3 : Hid (Below w.heap.size w w3) := by subst hw3; exact HB2.out.alloc HB2.out.size _
    have HR3 : Hid (Blk w3 w.heap.size 23 #[.int .i64 b, .int .i64 l]) := by subst hw3; exact HR2.out.alloc _
    clear hw3
    (with_reducible refine (lives_true _).mono ?_)
    rintro e w4 ⟨rfl, hb4⟩
    have HB4 : Hid (Below w.heap.size w w4) := HB3.out.trans (hb4.mono HB3.out.size)
    have hr4 := HR3.out.mod (Mod.of_below_all hb4) id
    have c0 : w4.cell? ⟨w.heap.size, 0, none⟩ = some (.int .i64 b) := hr4.cellS rfl
    have c1 : w4.cell? ⟨w.heap.size, 1, none⟩ = some (.int .i64 l) := hr4.cellS rfl
    clear hb4 hr4
    go_wp2_with fail
    (with_reducible refine (good_false _ b l HBB.out HG.out).mono ?_)
    rintro e w5 ⟨rfl, hb5⟩
    have HB5 : Hid (Below w.heap.size w w5) := HB4.out.trans (hb5.mono HB4.out.size)
    clear hb5 c0 c1
    go_wp2
    go_ret
    exact ⟨rfl, HB5.out⟩

set_option maxRecDepth 100000 in
set_option maxHeartbeats 1600000 in
theorem ruleOnly_any (w : World) (s : List UInt8) :
    Calls Try.prog 5 #[.string (str s)] w fun e w' => e = .returned (.bool true) ∧ Below w.heap.size w w' := by
  have HC := Lib.hid (read_cases s)
  go_enter Try.func5, Try.ntmps5
  go_wp2_with fail
  (with_reducible refine (read_any _ s).mono ?_)
  rintro e w1 ⟨rfl, hb1⟩
  have HB1 := Lib.hid hb1
  clear hb1
  rcases HC.out with ⟨b, l, hr, hg, ht⟩ | ⟨er, hr, hee⟩
  · rw [hr]
    dsimp only
    have HG := Lib.hid hg
    have HT := Lib.hid ht
    clear hr hg ht HC
    go_wp2_with fail
    generalize hw2 : World.alloc w1 _ = w2
    have HB2 : Hid (Below w.heap.size w w2) := by subst hw2; exact HB1.out.alloc HB1.out.size _
    clear hw2
    (with_reducible refine (text_good _ b l HG.out).mono ?_)
    rintro e w3 ⟨rfl, hb3⟩
    rw [HT.out]
    have HB3 : Hid (Below w.heap.size w w3) := HB2.out.trans (hb3.mono HB2.out.size)
    clear hb3
    go_wp2_with fail
    (with_reducible refine (lives_true _).mono ?_)
    rintro e w4 ⟨rfl, hb4⟩
    have HB4 : Hid (Below w.heap.size w w4) := HB3.out.trans (hb4.mono HB3.out.size)
    clear hb4
    generalize str s = S
    go_wp2
    go_ret
    exact ⟨by simp, HB4.out⟩
  · rw [hr]
    dsimp only
    clear hr HC
    go_wp2_with fail
    generalize hw2 : World.alloc w1 _ = w2
    have HB2 : Hid (Below w.heap.size w w2) := by subst hw2; exact HB1.out.alloc HB1.out.size _
    clear hw2
    (with_reducible refine (text_good _ 0 0 (by unfold goodR; omega)).mono ?_)
    rintro e w3 ⟨rfl, hb3⟩
    have HB3 : Hid (Below w.heap.size w w3) := HB2.out.trans (hb3.mono HB2.out.size)
    clear hb3
    go_wp2_with fail
    (with_reducible refine (lives_true _).mono ?_)
    rintro e w4 ⟨rfl, hb4⟩
    have HB4 : Hid (Below w.heap.size w w4) := HB3.out.trans (hb4.mono HB3.out.size)
    clear hb4
    rcases hee with rfl | rfl
    · go_wp2
      go_ret
      exact ⟨rfl, HB4.out⟩
    · go_wp2
      go_ret
      exact ⟨rfl, HB4.out⟩
end Go.Proofs.Ytkandepkojfblaa
