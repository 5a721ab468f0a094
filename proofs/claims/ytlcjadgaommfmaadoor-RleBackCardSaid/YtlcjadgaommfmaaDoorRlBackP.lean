/-
  lifelodgekeep.RleBack: whatever its arguments: it returns true, and its arguments read behind the call as they read before. The card: its listed variables tied to the program's text.
-/
import Derived.Test.YtlcjadgaommfmaaDoorRlDoor
import Derived.Test.YtlcjadgaommfmaaDoorRlBack
namespace Go.Proofs.YtlcjadgaommfmaaDoor
open Go.ChangeShapes Go.WideShapes Go.ChangeAt Go.RowKit Go.ChangeMaps

set_option maxRecDepth 100000 in
theorem rleBack_contract (H : Type) (enc : TypeId × Value → H) (W : World) (base : Nat) (args : Array Value) (ds gs : List (DataW H)) (before : List MemPlace)
    (hval : ∀ (j : Nat) t v, Tryd.f5.params[j]? = some t → args[j]? = some v → Value.okWide Tryd.prog W .any base t v)
    (hW : DataW.Whole enc Tryd.prog Tryd.f5.params.toList Rows.rleBackSpec.vars false W args.toList ds gs before) (hG : RlG W.heap.size W) :
    Calls Tryd.prog 5 args W fun e W' => ∃ v, e = .returned v ∧ Rows.rleBackSpec.post enc Tryd.prog Tryd.f5 false true false false W args v W' := by
  have hW' := hW
  obtain ⟨p, q, hA0, hV, rfl, hfz, hnd⟩ := hW
  have hA : DataW.TrodAll enc Tryd.prog W 0 (fun _ => true) true Tryd.f5.params.toList args.toList ds p := hA0
  rw [Tryd.params5] at hA hval
  obtain ⟨v0, v1, d0, d1, p0, p1, rfl, rfl, rfl, h0, h1⟩ := trodAll_two hA
  obtain ⟨rfl, rfl⟩ := trodVars_none hV
  obtain ⟨n, l, hR, hin, _⟩ := cells_of (hval 0 22 v0 rfl rfl) h0
  obtain ⟨rb, rl, rfl, hrb, hrl⟩ := rule_of (hval 1 24 v1 rfl rfl) h1
  refine (rlback_any W hG n v0 l hR hin rb rl hrb hrl).mono fun e W' ⟨he, hb⟩ => ?_
  subst he
  exact ⟨_, rfl, law_post laidOutD (by rw [Tryd.params5]; intro t ht; simp at ht; rcases ht with rfl | rfl <;> exact ⟨by kernel_rfl, of_decide_eq_true (by kernel_rfl)⟩) rfl hW' hb (tb := 4) rfl Tryd.underlying4 rfl rfl rfl⟩

abbrev rleBackArgsW : Array Value := #[.slice none 0 0, .agg #[.int .i64 0, .int .i64 0]]
theorem rleBack_laid_met (os : Os) : laidMet Tryd.prog Rows.rleBackRow.laid ((rlWorld os).forCall (fun _ _ => 0) ⟨#[], rleBackArgsW, []⟩).memory :=
  laidMet_of_run' 8 (by kernel_rfl) (by kernel_rfl)
theorem rleBack_reads (os : Os) {H : Type} (enc : TypeId × Value → H) : ∃ places, DataW.whole enc Tryd.prog ((rlWorld os).forCall (fun _ _ => 0) ⟨#[], rleBackArgsW, []⟩).memory Tryd.f5.params.toList Rows.rleBackSpec.vars false rleBackArgsW.toList 8 = some ([.nil, .agg [.lit (.int .i64 0), .lit (.int .i64 0)]], [], places) :=
  ⟨[], by kernel_rfl⟩

set_option maxRecDepth 100000 in
theorem rleBack_lifted (os : Os) (started : os.Started) (H : Type) (enc : TypeId × Value → H) (F : Stop.Interp) :
    ReturnsInHanded {} Tryd.checked os 5 .any ((OpenSpec.ofChange Rows.rleBackSpec).preRow enc Tryd.prog Tryd.f5 Rows.rleBackRow.domain false Rows.rleBackRow.laid) (((OpenSpec.ofChange Rows.rleBackSpec).at F).post enc Tryd.prog Tryd.f5 false true false false) := by
  obtain ⟨places, hx⟩ := rleBack_reads os enc
  refine returnsInHanded_of_row (C := Tryd.checked) (s := (OpenSpec.ofChange Rows.rleBackSpec)) ownD started (by kernel_rfl) Tryd.func5
    (witness_row_at (enc := enc) (C := Tryd.checked) false (rlWorld os) rleBackArgsW rfl (by kernel_rfl) (by kernel_rfl) (by kernel_rfl)
      (OpenSpec.preRow_of_cond 8 hx (by kernel_rfl) (fun k hk => by cases hk) (by kernel_rfl) (rleBack_laid_met os))) ?_
  intro W base args ds gs before hval hW _ hcond _ hL hsh _
  exact rleBack_contract H enc W base args ds gs before hval hW (ground_of_laid hsh hL)

theorem rleBack_said : Rows.RleBackSaid :=
  OpenClaim.holds_of_cond 5 Tryd.f5 rfl rfl rfl rfl rfl rfl rfl ⟨rfl, rfl, rfl, rfl, rfl⟩ rfl rfl rfl rfl rfl (by kernel_rfl) Tryd.func5 (by kernel_rfl)
    (of_decide_eq_true (by kernel_rfl)) (by unfold Func.isWrapper; rw [if_neg (of_decide_eq_false (by kernel_rfl))]; exact ⟨rfl, rfl⟩)
    (fun os started H enc _ F => by rw [OpenClaim.pre_eq_preRow]; exact rleBack_lifted os started H enc F)

theorem rleBack_plain (f : FuncId) (fn : Func) (hf : Tryd.pinned.checked.prog.funcNamed "lifelodge/lifelodgekeep.RleBack" = some f) (hfn : Tryd.pinned.checked.prog.funcs[f]? = some fn) :
    false = Tryd.pinned.checked.prog.looks [] ∧ ∀ (j : Nat) t, fn.params[j]? = some t → Tryd.pinned.checked.prog.wantsStandIn t = false := by
  obtain rfl : f = 5 := Option.some.inj ((show Tryd.prog.funcNamed "lifelodge/lifelodgekeep.RleBack" = some 5 by kernel_rfl).symm.trans hf) |>.symm
  obtain rfl : fn = Tryd.f5 := (Option.some.inj (Tryd.func5.symm.trans hfn)).symm
  refine ⟨by kernel_rfl, fun j t ht => ?_⟩
  rw [Tryd.params5] at ht
  have hm := Array.mem_of_getElem? ht
  simp at hm
  rcases hm with rfl | rfl
  · exact (show Tryd.prog.wantsStandIn 22 = false by kernel_rfl)
  · exact (show Tryd.prog.wantsStandIn 24 = false by kernel_rfl)

theorem rleBack_card : Rows.RleBackCardSaid :=
  Claim7.holds_tied_plain_at .later [] _ _ _ _ rleBack_said (fun _ h => by cases h) (by kernel_rfl) (fun _ h => by cases h) rleBack_row_tie rfl ⟨rfl, rfl⟩ (by kernel_rfl) rfl rleBack_plain (by kernel_rfl)
#print axioms rleBack_card
end Go.Proofs.YtlcjadgaommfmaaDoor
