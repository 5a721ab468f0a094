/-
  lifelodgekeep.KeysGone: whatever its arguments: it returns true, and its arguments read behind the call as they read before. The card: its listed variables tied to the program's text.
-/
import Derived.Test.YtfoipadgicjcaaaDoorKeyDoor
import Derived.Test.YtfoipadgicjcaaaDoorGoneW
namespace Go.Proofs.YtfoipadgicjcaaaDoor
open Go.ChangeShapes Go.WideShapes Go.ChangeAt Go.RowKit Go.ChangeMaps

set_option maxRecDepth 100000 in
theorem keysGone_contract (H : Type) (enc : TypeId × Value → H) (W : World) (base : Nat) (args : Array Value) (ds gs : List (DataW H)) (before : List MemPlace)
    (hval : ∀ (j : Nat) t v, Tryd.f3.params[j]? = some t → args[j]? = some v → Value.okWide Tryd.prog W .any base t v)
    (hW : DataW.Whole enc Tryd.prog Tryd.f3.params.toList Rows.keysGoneSpec.vars false W args.toList ds gs before) (ht : W.cell? ⟨5, 15, none⟩ = some (.int .u8 4)) :
    Calls Tryd.prog 3 args W fun e W' => ∃ v, e = .returned v ∧ Rows.keysGoneSpec.post enc Tryd.prog Tryd.f3 false true false false W args v W' := by
  have hW' := hW
  obtain ⟨p, q, hA0, hV, rfl, hfz, hnd⟩ := hW
  have hA : DataW.TrodAll enc Tryd.prog W 0 (fun _ => true) true Tryd.f3.params.toList args.toList ds p := hA0
  rw [Tryd.params3] at hA hval
  obtain ⟨v0, v1, d0, d1, p0, p1, rfl, rfl, rfl, h0, h1⟩ := trodAll_two hA
  obtain ⟨rfl, rfl⟩ := trodVars_none hV
  obtain ⟨n, L, hL, hR, hw⟩ := wants_of (hval 0 22 v0 rfl rfl) h0
  obtain ⟨s, rfl, rfl, _, _⟩ := open_string Tryd.underlying9 (hval 1 9 v1 rfl rfl) h1
  refine (keysGone_any W n L hL v0 hR hw s ht).mono fun e W' ⟨he, hb⟩ => ?_
  subst he
  exact ⟨_, rfl, law_post laidOutD (by rw [Tryd.params3]; intro t ht; simp at ht; rcases ht with rfl | rfl <;> exact ⟨by kernel_rfl, of_decide_eq_true (by kernel_rfl)⟩) rfl hW' hb (tb := 4) rfl Tryd.underlying4 rfl rfl rfl⟩


abbrev keysGoneArgsW : Array Value := #[.slice none 0 0, .string ⟨#[]⟩]
theorem keysGone_laid_met (os : Os) : laidMet Tryd.prog Rows.keysGoneRow.laid ((keysWorld os).forCall (fun _ _ => 0) ⟨#[], keysGoneArgsW, []⟩).memory :=
  laidMet_of_run' 8 (by kernel_rfl) (by kernel_rfl)
theorem keysGone_reads (os : Os) {H : Type} (enc : TypeId × Value → H) : ∃ places, DataW.whole enc Tryd.prog ((keysWorld os).forCall (fun _ _ => 0) ⟨#[], keysGoneArgsW, []⟩).memory Tryd.f3.params.toList Rows.keysGoneSpec.vars false keysGoneArgsW.toList 8 = some ([.nil, .lit (.string [])], [], places) :=
  ⟨[], by kernel_rfl⟩

set_option maxRecDepth 100000 in
theorem keysGone_lifted (os : Os) (started : os.Started) (H : Type) (enc : TypeId × Value → H) (F : Stop.Interp) :
    ReturnsInHanded {} Tryd.checked os 3 .any ((OpenSpec.ofChange Rows.keysGoneSpec).preRow enc Tryd.prog Tryd.f3 Rows.keysGoneRow.domain false Rows.keysGoneRow.laid) (((OpenSpec.ofChange Rows.keysGoneSpec).at F).post enc Tryd.prog Tryd.f3 false true false false) := by
  obtain ⟨places, hx⟩ := keysGone_reads os enc
  refine returnsInHanded_of_row (C := Tryd.checked) (s := OpenSpec.ofChange Rows.keysGoneSpec) ownD started (by kernel_rfl) Tryd.func3
    (witness_row_at (enc := enc) (C := Tryd.checked) false (keysWorld os) keysGoneArgsW rfl (by kernel_rfl) (by kernel_rfl) (by kernel_rfl)
      (OpenSpec.preRow_of_cond 8 hx (by kernel_rfl) (fun k hk => by cases hk) (by kernel_rfl) (keysGone_laid_met os))) ?_
  intro W base args ds gs before hval hW _ hcond _ hL hsh _
  exact keysGone_contract H enc W base args ds gs before hval hW (tab_of_laid hL)

theorem keysGone_said : Rows.KeysGoneSaid :=
  OpenClaim.holds_of_cond 3 Tryd.f3 rfl rfl rfl rfl rfl rfl rfl ⟨rfl, rfl, rfl, rfl, rfl⟩ rfl rfl rfl rfl rfl (by kernel_rfl) Tryd.func3 (by kernel_rfl)
    (of_decide_eq_true (by kernel_rfl)) (by unfold Func.isWrapper; rw [if_neg (of_decide_eq_false (by kernel_rfl))]; exact ⟨rfl, rfl⟩)
    (fun os started H enc _ F => by rw [OpenClaim.pre_eq_preRow]; exact keysGone_lifted os started H enc F)

theorem keysGone_plain (f : FuncId) (fn : Func) (hf : Tryd.pinned.checked.prog.funcNamed "lifelodge/lifelodgekeep.KeysGone" = some f) (hfn : Tryd.pinned.checked.prog.funcs[f]? = some fn) :
    false = Tryd.pinned.checked.prog.looks [] ∧ ∀ (j : Nat) t, fn.params[j]? = some t → Tryd.pinned.checked.prog.wantsStandIn t = false := by
  obtain rfl : f = 3 := Option.some.inj ((show Tryd.prog.funcNamed "lifelodge/lifelodgekeep.KeysGone" = some 3 by kernel_rfl).symm.trans hf) |>.symm
  obtain rfl : fn = Tryd.f3 := (Option.some.inj (Tryd.func3.symm.trans hfn)).symm
  refine ⟨by kernel_rfl, fun j t ht => ?_⟩
  rw [Tryd.params3] at ht
  have hm := Array.mem_of_getElem? ht
  simp at hm
  rcases hm with rfl | rfl
  · exact (show Tryd.prog.wantsStandIn 22 = false by kernel_rfl)
  · exact (show Tryd.prog.wantsStandIn 9 = false by kernel_rfl)

theorem keysGone_card : Rows.KeysGoneCardSaid :=
  Claim7.holds_tied_plain_at .later [] _ _ _ _ keysGone_said (fun _ h => by cases h) (by kernel_rfl) (fun _ h => by cases h) keysGone_row_tie rfl ⟨rfl, rfl⟩ (by kernel_rfl) rfl keysGone_plain (by kernel_rfl)
#print axioms keysGone_card
end Go.Proofs.YtfoipadgicjcaaaDoor
