/- The statements' own helpers: cells, alive. -/
import Derived.Test.YtfoipadgicjcaaaKeep
namespace Go.Proofs.Ytfoipadgicjcaaa
open Go.RowKit

/-- A copy in new memory. -/
def CopyPost (w : World) (n : Nat) (l : List (Int × Int)) (e : Ending) (w' : World) : Prop :=
  ∃ v', e = .returned v' ∧ Sl w' 62 2 v' n (flat l) ∧ (∀ b, sblk v' = some b → w.heap.size ≤ b) ∧ Below w.heap.size w w'

theorem cells_any (w : World) (B n : Nat) (v : Value) (l : List (Int × Int)) (h : Rd w B 2 v n (flat l)) (hn : n * 16 ≤ 140737488355328) :
    Calls Try.prog 29 #[v] w (CopyPost w n l) := by
  obtain ⟨A, cap, rfl, hc1, hc2⟩ := h.form
  have HR := Lib.hid h
  have HSL := Lib.hid (Sl.nil w 62 2)
  unfold maxLen at hc2
  clear h
  go_enter Try.func29, Try.ntmps29
  go_wp2_with (at_builtin; refine wpList_append_sl _ rfl (.const (.slice none 0 0)) (.tmp 3) 56 rfl 62 (.agg #[.int .i64 0, .int .i64 0]) 2 16 Try.underlying56 Try.info62 rfl (by decide) rfl HSL.out rfl HR.out flat_one (by omega) (by unfold maxLen; omega) ?_; intro v' w1 hs1 hm1 hd1)
  go_ret
  obtain ⟨f1, f2⟩ := fresh_of (w := w) (v := .slice none 0 0) hm1 hd1 (Below.refl _ _) (fun b hb => by simp [sblk] at hb)
  exact ⟨v', rfl, by simpa using hs1, f1, f2⟩

theorem tid_literal : Tid [(2, 0), (1, 0), (2, 0)] [(1, 0), (2, 0)] := by
  refine ⟨by simp [ltC], fun c => ?_⟩
  simp only [List.mem_cons, List.not_mem_nil, or_false]
  constructor
  · rintro (h | h)
    · exact .inr (.inl h)
    · exact .inl h
  · rintro (h | h | h)
    · exact .inr h
    · exact .inl h
    · exact .inr h

set_option maxHeartbeats 800000 in
theorem alive_true (w : World) : Calls Try.prog 30 #[] w fun e w' => e = .returned (.bool true) ∧ Below w.heap.size w w' := by
  have hr := fresh_cells w [(2, 0), (1, 0), (2, 0)] 3 rfl (by unfold maxLen; omega)
  have HR : Hid (Rd (w.alloc (.cells #[.int .i64 2, .int .i64 0, .int .i64 1, .int .i64 0, .int .i64 2, .int .i64 0] 62)) (w.heap.size + 1) 2 (.slice (some ⟨w.heap.size, 0, none⟩) 3 3) 3 (flat [(2, 0), (1, 0), (2, 0)])) := hr
  have hbl := Lib.hid ((Below.refl w.heap.size w).alloc (Nat.le_refl _) (.cells #[.int .i64 2, .int .i64 0, .int .i64 1, .int .i64 0, .int .i64 2, .int .i64 0] 62))
  clear hr
  go_enter Try.func30, Try.ntmps30
  go_wp2_with fail
  (with_reducible refine (tidy_ok _ (w.heap.size + 1) 3 _ [(2, 0), (1, 0), (2, 0)] HR.out (by simp) (by omega) (by intro c hc; simp at hc; rcases hc with rfl | rfl | rfl <;> (unfold okC okZ; decide))).mono ?_)
  rintro e w1 ⟨A1, m1, t1, rfl, ht1, hs1, hf1, hb1⟩
  have htt := ht1.unique tid_literal
  subst htt
  have hm1 : m1 = 2 := by have := hs1.1; rw [flat_length] at this; simp at this; omega
  subst hm1
  have hrd1 := (hs1.alloc (.cells #[.int .i64 1, .int .i64 0, .int .i64 2, .int .i64 0] 62)).rd
  have hrd2 := fresh_cells w1 [(1, 0), (2, 0)] 2 rfl (by unfold maxLen; omega)
  have HR1 := Lib.hid hrd1
  have HR2 : Hid (Rd (w1.alloc (.cells #[.int .i64 1, .int .i64 0, .int .i64 2, .int .i64 0] 62)) (w1.heap.size + 1) 2 (.slice (some ⟨w1.heap.size, 0, none⟩) 2 2) 2 (flat [(1, 0), (2, 0)])) := hrd2
  have HB1 : Hid (Below w.heap.size w w1) := hbl.out.trans (hb1.mono (by simp))
  clear hrd1 hrd2 hs1 hf1 hb1 ht1
  go_wp2_with fail
  (with_reducible refine (same_true _ _ _ 2 _ _ [(1, 0), (2, 0)] HR1.out HR2.out).mono ?_)
  rintro e w2 ⟨rfl, d, rfl⟩
  go_wp2
  go_ret
  have hz := HB1.out.alloc HB1.out.size (.cells #[.int .i64 1, .int .i64 0, .int .i64 2, .int .i64 0] 62)
  exact ⟨rfl, ⟨hz.os, hz.tape, hz.output, hz.size, hz.block⟩⟩
end Go.Proofs.Ytfoipadgicjcaaa
