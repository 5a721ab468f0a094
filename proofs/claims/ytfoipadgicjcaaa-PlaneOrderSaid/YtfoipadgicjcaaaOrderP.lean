/-
  lifelodgekeep.PlaneOrder: whatever the list and the place: it returns true, and its arguments read behind the call as they read before.
-/
import Derived.Test.YtfoipadgicjcaaaCells
import Derived.Test.YtfoipadgicjcaaaOrderW
namespace Go.Proofs.Ytfoipadgicjcaaa
open Go.ChangeShapes Go.WideShapes Go.ChangeAt Go.RowKit

theorem order_any_list (w : World) (n : Nat) (v : Value) (l : List (Int × Int)) (at_ : Int) (h0 : -9223372036854775808 ≤ at_) (h0' : at_ ≤ 9223372036854775807) (h : Rd w w.heap.size 2 v n (flat l)) (hn : n * 16 ≤ 140737488355328) :
    Calls Try.prog 6 #[v, .int .i64 at_] w fun e w' => e = .returned (.bool true) ∧ Below w.heap.size w w' := by
  by_cases hbig : 4096 < n
  · exact order_full w n v l at_ h hn hbig
  · by_cases hbad : ∃ c ∈ l, ¬ okC c
    · exact order_range w n v l at_ h (by omega) hbad
    · exact order_ok w n v l at_ h0 h0' h (by omega) fun c hc => Classical.byContradiction fun hno => hbad ⟨c, hc, hno⟩

set_option maxRecDepth 100000 in
theorem planeOrder_lifted (os : Os) (started : os.Started) (H : Type) (enc : TypeId × Value → H) :
    ReturnsInHanded {} Try.checked os 6 .any (Rows.planeOrderSpec.pre6 enc Try.prog Try.f6 Rows.planeOrderRow.domain false) (Rows.planeOrderSpec.post enc Try.prog Try.f6 false true false false) := by
  refine returnsInHanded_of_change_sized (C := Try.checked) Try.ownC started (by kernel_rfl) Try.func6
    (ChangeSpec.witness6 (enc := enc) (C := Try.checked) false ⟨#[], #[.slice none 0 0, .int .i64 0], []⟩ 8 (by kernel_rfl) (by kernel_rfl) (by kernel_rfl) (by kernel_rfl)) ?_
  intro W base args ds gs before hval0 hW hcnd hsz0 _
  have hval : ∀ (j : Nat) t v, Try.f6.params[j]? = some t → args[j]? = some v → Value.okWide Try.prog W .any base t v := hval0
  have hsz : (DataW.weightsEach Try.prog (Try.f6.params.toList ++ Rows.planeOrderSpec.plain.varTypes Try.prog) (ds ++ gs)).all (· ≤ reachBytes) = true := hsz0
  clear hsz0
  have hW' := hW
  obtain ⟨p, q, hA0, hV, rfl, hfz, hnd⟩ := hW
  have hA : DataW.TrodAll enc Try.prog W 0 (fun _ => true) true Try.f6.params.toList args.toList ds p := hA0
  rw [Try.params6] at hA hval hsz
  obtain ⟨v0, v1, d0, d1, p0, p1, rfl, rfl, rfl, h0, h1⟩ := trodAll_two hA
  obtain ⟨rfl, rfl⟩ := trodVars_none hV
  obtain ⟨n1, rfl, rfl, rfl, w1⟩ := open_int Try.underlying3 (hval 1 3 v1 rfl rfl) h1
  have hb1 : -9223372036854775808 ≤ n1 ∧ n1 ≤ 9223372036854775807 := by simpa [Lit.wf, IntKind.min, IntKind.max, IntKind.signed, IntKind.bits] using w1
  obtain ⟨n, l, hR, _, hd⟩ := cells_of (hval 0 56 v0 rfl rfl) h0
  have hn : n * 16 ≤ 140737488355328 := by
    rcases hd with rfl | ⟨elems, rest, rfl, rfl⟩
    · omega
    · have := sized_slice hsz (j := 0) (t := 56) (e := 62) rfl rfl Try.underlying56
      rw [Try.bytesCell] at this
      simp only [reachBytes] at this
      omega
  refine (order_any_list W n v0 l n1 hb1.1 hb1.2 hR hn).mono fun e W' ⟨he, hb⟩ => ?_
  subst he
  exact ⟨_, rfl, law_post Try.laidOutC (by rw [Try.params6]; intro t ht; simp at ht; rcases ht with rfl | rfl <;> exact ⟨by kernel_rfl, of_decide_eq_true (by kernel_rfl)⟩) rfl hW' hb (tb := 4) rfl Try.underlying4 rfl rfl rfl⟩

theorem planeOrder_holds : Rows.PlaneOrderSaid :=
  OpenClaim.holds_of_wide 6 Try.f6 rfl rfl rfl rfl rfl rfl rfl ⟨rfl, rfl, rfl, rfl, rfl⟩ rfl rfl rfl rfl rfl (by kernel_rfl) Try.func6 (by kernel_rfl)
    (of_decide_eq_true (by kernel_rfl)) (by unfold Func.isWrapper; rw [if_neg (of_decide_eq_false (by kernel_rfl))]; exact ⟨rfl, rfl⟩)
    (fun os started H enc _ => planeOrder_lifted os started H enc)
#print axioms planeOrder_holds
end Go.Proofs.Ytfoipadgicjcaaa
