/-
  lifelodgekeep.SpeechBack: whatever its arguments, of bulk at most 1048576 together: it returns true, and its arguments read behind the call as they read before. The card: its listed variables tied to the program's text.
-/
import Derived.Test.YtkandepkojfblaaDoorSpReq
import Derived.Test.YtkandepkojfblaaDoorSpLaw
namespace Go.Proofs.YtkandepkojfblaaDoor
open Go.ChangeShapes Go.WideShapes Go.ChangeAt Go.RowKit Go.ChangeMaps

set_option maxRecDepth 100000 in
theorem speechBack_contract (H : Type) (enc : TypeId × Value → H) (W : World) (base : Nat) (args : Array Value) (ds gs : List (DataW H)) (before : List MemPlace)
    (hval : ∀ (j : Nat) t v, Tryd.f5.params[j]? = some t → args[j]? = some v → Value.okWide Tryd.prog W .any base t v)
    (hW : DataW.Whole enc Tryd.prog Tryd.f5.params.toList Rows.speechBackSpec.vars false W args.toList ds gs before) (hG : SpG W) (hk : Rows.uptoSmall H (ds ++ gs) = true) :
    Calls Tryd.prog 5 args W fun e W' => ∃ v, e = .returned v ∧ Rows.speechBackSpec.post enc Tryd.prog Tryd.f5 false true false false W args v W' := by
  have hW' := hW
  obtain ⟨p, q, hA0, hV, rfl, hfz, hnd⟩ := hW
  have hA : DataW.TrodAll enc Tryd.prog W 0 (fun _ => true) true Tryd.f5.params.toList args.toList ds p := hA0
  rw [Tryd.params5] at hA hval
  obtain ⟨v0, d0, rfl, rfl, h0⟩ := trodAll_one hA
  obtain ⟨rfl, rfl⟩ := trodVars_none hV
  obtain ⟨rq, u, rfl, hfit, hR, hn⟩ := req_of (hval 0 34 v0 rfl rfl) h0 (by
    have h := of_decide_eq_true hk
    simp only [List.append_nil, Rows.uptoBulkAll] at h
    omega)
  refine (speechBack_any W hG rq hfit u hR (by omega)).mono fun e W' ⟨he, hb⟩ => ?_
  subst he
  exact ⟨_, rfl, law_post laidOutD (by rw [Tryd.params5]; intro t ht; simp at ht; rcases ht with rfl; exact ⟨by kernel_rfl, of_decide_eq_true (by kernel_rfl)⟩) rfl hW' hb (tb := 4) rfl Tryd.underlying4 rfl rfl rfl⟩


abbrev speechBackArgsW : Array Value := #[.agg #[.int .i64 0, .string ⟨#[]⟩, .string ⟨#[]⟩, .int .i64 0, .int .i64 0, .int .i64 0, .slice none 0 0]]
theorem speechBack_laid_met (os : Os) : laidMet Tryd.prog Rows.speechBackUptoRow.laid ((spWorld os).forCall (fun _ _ => 0) ⟨#[], speechBackArgsW, []⟩).memory :=
  laidMet_of_run' 8 (by kernel_rfl) (by kernel_rfl)
theorem speechBack_reads (os : Os) {H : Type} (enc : TypeId × Value → H) : ∃ places, DataW.whole enc Tryd.prog ((spWorld os).forCall (fun _ _ => 0) ⟨#[], speechBackArgsW, []⟩).memory Tryd.f5.params.toList Rows.speechBackSpec.vars false speechBackArgsW.toList 8 = some ([.agg [.lit (.int .i64 0), .lit (.string []), .lit (.string []), .agg [.lit (.int .i64 0), .lit (.int .i64 0)], .lit (.int .i64 0), .nil]], [], places) :=
  ⟨[], by kernel_rfl⟩

set_option maxRecDepth 100000 in
theorem speechBack_lifted (os : Os) (started : os.Started) (H : Type) (enc : TypeId × Value → H) (F : Stop.Interp) :
    ReturnsInHanded {} Tryd.checked os 5 .any ((Rows.OpenSpec.upto Rows.speechBackSpec).preRow enc Tryd.prog Tryd.f5 Rows.speechBackUptoRow.domain false Rows.speechBackUptoRow.laid) (((Rows.OpenSpec.upto Rows.speechBackSpec).at F).post enc Tryd.prog Tryd.f5 false true false false) := by
  obtain ⟨places, hx⟩ := speechBack_reads os enc
  refine returnsInHanded_of_row (C := Tryd.checked) (s := (Rows.OpenSpec.upto Rows.speechBackSpec)) ownD started (by kernel_rfl) Tryd.func5
    (witness_row_at (enc := enc) (C := Tryd.checked) false (spWorld os) speechBackArgsW rfl (by kernel_rfl) (by kernel_rfl) (by kernel_rfl)
      (OpenSpec.preRow_of_cond 8 hx (by kernel_rfl) (fun k hk => by cases hk; kernel_rfl) (by kernel_rfl) (speechBack_laid_met os))) ?_
  intro W base args ds gs before hval hW _ hcond _ hL hsh _
  exact speechBack_contract H enc W base args ds gs before hval hW (ground_of_laid hsh hL) (hcond _ rfl)

theorem speechBack_said : Rows.SpeechBackUptoSaid :=
  OpenClaim.holds_of_cond 5 Tryd.f5 rfl rfl rfl rfl rfl rfl rfl ⟨rfl, rfl, rfl, rfl, rfl⟩ rfl rfl rfl rfl rfl (by kernel_rfl) Tryd.func5 (by kernel_rfl)
    (of_decide_eq_true (by kernel_rfl)) (by unfold Func.isWrapper; rw [if_neg (of_decide_eq_false (by kernel_rfl))]; exact ⟨rfl, rfl⟩)
    (fun os started H enc _ F => by rw [OpenClaim.pre_eq_preRow]; exact speechBack_lifted os started H enc F)

theorem speechBack_plain (f : FuncId) (fn : Func) (hf : Tryd.pinned.checked.prog.funcNamed "lifelodge/lifelodgekeep.SpeechBack" = some f) (hfn : Tryd.pinned.checked.prog.funcs[f]? = some fn) :
    true = Tryd.pinned.checked.prog.looks [] ∧ ∀ (j : Nat) t, fn.params[j]? = some t → Tryd.pinned.checked.prog.wantsStandIn t = false := by
  obtain rfl : f = 5 := Option.some.inj ((show Tryd.prog.funcNamed "lifelodge/lifelodgekeep.SpeechBack" = some 5 by kernel_rfl).symm.trans hf) |>.symm
  obtain rfl : fn = Tryd.f5 := (Option.some.inj (Tryd.func5.symm.trans hfn)).symm
  refine ⟨by kernel_rfl, fun j t ht => ?_⟩
  rw [Tryd.params5] at ht
  have hm := Array.mem_of_getElem? ht
  simp at hm
  rcases hm with rfl
  exact (show Tryd.prog.wantsStandIn 34 = false by kernel_rfl)

theorem speechBack_card : Rows.SpeechBackUptoCardSaid :=
  Claim7.holds_tied_plain_at .later [] _ _ _ _ speechBack_said (fun _ h => by cases h) (by kernel_rfl) (fun _ h => by cases h) speechBackUpto_row_tie rfl ⟨rfl, rfl⟩ (by kernel_rfl) rfl speechBack_plain (by kernel_rfl)
#print axioms speechBack_card
end Go.Proofs.YtkandepkojfblaaDoor
