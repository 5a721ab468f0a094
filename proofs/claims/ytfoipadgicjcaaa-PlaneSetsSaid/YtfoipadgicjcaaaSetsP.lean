/-
  lifelodgekeep.PlaneSets: whatever its arguments: it returns true, and its arguments read behind the call as they read before.
-/
import Derived.Test.YtfoipadgicjcaaaCells
import Derived.Test.YtfoipadgicjcaaaSetsW
namespace Go.Proofs.Ytfoipadgicjcaaa
open Go.ChangeShapes Go.WideShapes Go.ChangeAt Go.RowKit

set_option maxRecDepth 100000 in
theorem planeSets_lifted (os : Os) (started : os.Started) (H : Type) (enc : TypeId × Value → H) :
    ReturnsInHanded {} Try.checked os 9 .any (Rows.planeSetsSpec.pre6 enc Try.prog Try.f9 Rows.planeSetsRow.domain false) (Rows.planeSetsSpec.post enc Try.prog Try.f9 false true false false) := by
  refine returnsInHanded_of_change_sized (C := Try.checked) Try.ownC started (by kernel_rfl) Try.func9
    (ChangeSpec.witness6 (enc := enc) (C := Try.checked) false ⟨#[], #[.slice none 0 0, .slice none 0 0, .slice none 0 0], []⟩ 8 (by kernel_rfl) (by kernel_rfl) (by kernel_rfl) (by kernel_rfl)) ?_
  intro W base args ds gs before hval0 hW hcnd hsz0 _
  have hval : ∀ (j : Nat) t v, Try.f9.params[j]? = some t → args[j]? = some v → Value.okWide Try.prog W .any base t v := hval0
  clear hsz0
  have hW' := hW
  obtain ⟨p, q, hA0, hV, rfl, hfz, hnd⟩ := hW
  have hA : DataW.TrodAll enc Try.prog W 0 (fun _ => true) true Try.f9.params.toList args.toList ds p := hA0
  rw [Try.params9] at hA hval
  obtain ⟨v0, v1, v2, d0, d1, d2, p0, p1, p2, rfl, rfl, rfl, h0, h1, h2⟩ := trodAll_three hA
  obtain ⟨rfl, rfl⟩ := trodVars_none hV
  obtain ⟨n0, l0, hR0, hin0, _⟩ := cells_of (hval 0 56 v0 rfl rfl) h0
  obtain ⟨n1, l1, hR1, hin1, _⟩ := cells_of (hval 1 56 v1 rfl rfl) h1
  obtain ⟨n2, l2, hR2, hin2, _⟩ := cells_of (hval 2 56 v2 rfl rfl) h2
  refine (sets_any W n0 v0 l0 n1 v1 l1 n2 v2 l2 hR0 hin0 hR1 hin1 hR2 hin2).mono fun e W' ⟨he, hb⟩ => ?_
  subst he
  exact ⟨_, rfl, law_post Try.laidOutC (by rw [Try.params9]; intro t ht; simp at ht; rcases ht with rfl | rfl | rfl <;> exact ⟨by kernel_rfl, of_decide_eq_true (by kernel_rfl)⟩) rfl hW' hb (tb := 4) rfl Try.underlying4 rfl rfl rfl⟩

theorem planeSets_holds : Rows.PlaneSetsSaid :=
  OpenClaim.holds_of_wide 9 Try.f9 rfl rfl rfl rfl rfl rfl rfl ⟨rfl, rfl, rfl, rfl, rfl⟩ rfl rfl rfl rfl rfl (by kernel_rfl) Try.func9 (by kernel_rfl)
    (of_decide_eq_true (by kernel_rfl)) (by unfold Func.isWrapper; rw [if_neg (of_decide_eq_false (by kernel_rfl))]; exact ⟨rfl, rfl⟩)
    (fun os started H enc _ => planeSets_lifted os started H enc)
#print axioms planeSets_holds
end Go.Proofs.Ytfoipadgicjcaaa
