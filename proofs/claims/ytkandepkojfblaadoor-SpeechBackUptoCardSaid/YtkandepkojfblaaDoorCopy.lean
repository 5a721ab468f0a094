/- The statements' own helpers: cells, alive. -/
import Derived.Test.YtkandepkojfblaaDoorFresh
import Derived.Test.YtkandepkojfblaaDoorAppW
namespace Go.Proofs.YtkandepkojfblaaDoor
open Go.RowKit

/-- A copy in new memory. -/
def CopyPost (w : World) (n : Nat) (l : List (Int × Int)) (e : Ending) (w' : World) : Prop :=
  ∃ v', e = .returned v' ∧ Sl w' 57 2 v' n (flat l) ∧ (∀ b, sblk v' = some b → w.heap.size ≤ b) ∧ Below w.heap.size w w'

theorem cells_any (w : World) (B n : Nat) (v : Value) (l : List (Int × Int)) (h : Rd w B 2 v n (flat l)) (hn : n * 16 ≤ 140737488355328) :
    Calls Tryd.prog 10 #[v] w (CopyPost w n l) := by
  obtain ⟨A, cap, rfl, hc1, hc2⟩ := h.form
  have HR := Lib.hid h
  have HSL := Lib.hid (Sl.nil w 57 2)
  unfold maxLen at hc2
  clear h
  go_enter Tryd.func10, Tryd.ntmps10
  go_wp2_with (at_builtin; refine wpList_append_sl _ rfl (.const (.slice none 0 0)) (.tmp 3) 32 rfl 57 (.agg #[.int .i64 0, .int .i64 0]) 2 16 Tryd.underlying32 Tryd.info57 rfl (by decide) rfl HSL.out rfl HR.out flat_one (by omega) (by unfold maxLen; omega) ?_; intro v' w1 hs1 hm1 hd1)
  go_ret
  obtain ⟨f1, f2⟩ := fresh_of (w := w) (v := .slice none 0 0) hm1 hd1 (Below.refl _ _) (fun b hb => by simp [sblk] at hb)
  exact ⟨v', rfl, by simpa using hs1, f1, f2⟩
end Go.Proofs.YtkandepkojfblaaDoor
