/-
  lifelodgekeep.RleCanon: whatever its arguments: it returns true, and its arguments read behind the call as they read before. The card: its listed variables tied to the program's text.
-/
import Derived.Test.YtlcjadgaommfmaaDoorRlDoor
import Derived.Test.YtlcjadgaommfmaaDoorRlCanon
namespace Go.Proofs.YtlcjadgaommfmaaDoor
open Go.ChangeShapes Go.WideShapes Go.ChangeAt Go.RowKit Go.ChangeMaps

set_option maxRecDepth 100000 in
theorem rleCanon_contract (H : Type) (enc : TypeId × Value → H) (W : World) (base : Nat) (args : Array Value) (ds gs : List (DataW H)) (before : List MemPlace)
    (hval : ∀ (j : Nat) t v, Tryd.f3.params[j]? = some t → args[j]? = some v → Value.okWide Tryd.prog W .any base t v)
    (hW : DataW.Whole enc Tryd.prog Tryd.f3.params.toList Rows.rleCanonSpec.vars false W args.toList ds gs before) (hG : RlG W.heap.size W) :
    Calls Tryd.prog 3 args W fun e W' => ∃ v, e = .returned v ∧ Rows.rleCanonSpec.post enc Tryd.prog Tryd.f3 false true false false W args v W' := by
  have hW' := hW
  obtain ⟨p, q, hA0, hV, rfl, hfz, hnd⟩ := hW
  have hA : DataW.TrodAll enc Tryd.prog W 0 (fun _ => true) true Tryd.f3.params.toList args.toList ds p := hA0
  rw [Tryd.params3] at hA hval
  obtain ⟨v0, d0, rfl, rfl, h0⟩ := trodAll_one hA
  obtain ⟨rfl, rfl⟩ := trodVars_none hV
  obtain ⟨s, rfl, rfl, _, hsz⟩ := open_string Tryd.underlying9 (hval 0 9 v0 rfl rfl) h0
  have hs : s = str s.data.toList := by simp [str]
  have hlen : s.data.toList.length ≤ 9223372036854775807 := by
    have h1 : s.data.toList.length = s.size := Array.length_toList
    unfold maxLen at hsz
    omega
  have hc := canon_any W hG s.data.toList hlen
  rw [← hs] at hc
  refine hc.mono fun e W' ⟨he, hb⟩ => ?_
  subst he
  exact ⟨_, rfl, law_post laidOutD (by rw [Tryd.params3]; intro t ht; simp at ht; rcases ht with rfl; exact ⟨by kernel_rfl, of_decide_eq_true (by kernel_rfl)⟩) rfl hW' hb (tb := 4) rfl Tryd.underlying4 rfl rfl rfl⟩

abbrev rleCanonArgsW : Array Value := #[.string ⟨#[]⟩]
theorem rleCanon_laid_met (os : Os) : laidMet Tryd.prog Rows.rleCanonRow.laid ((rlWorld os).forCall (fun _ _ => 0) ⟨#[], rleCanonArgsW, []⟩).memory :=
  laidMet_of_run' 8 (by kernel_rfl) (by kernel_rfl)
theorem rleCanon_reads (os : Os) {H : Type} (enc : TypeId × Value → H) : ∃ places, DataW.whole enc Tryd.prog ((rlWorld os).forCall (fun _ _ => 0) ⟨#[], rleCanonArgsW, []⟩).memory Tryd.f3.params.toList Rows.rleCanonSpec.vars false rleCanonArgsW.toList 8 = some ([.lit (.string [])], [], places) :=
  ⟨[], by kernel_rfl⟩

set_option maxRecDepth 100000 in
theorem rleCanon_lifted (os : Os) (started : os.Started) (H : Type) (enc : TypeId × Value → H) (F : Stop.Interp) :
    ReturnsInHanded {} Tryd.checked os 3 .any ((OpenSpec.ofChange Rows.rleCanonSpec).preRow enc Tryd.prog Tryd.f3 Rows.rleCanonRow.domain false Rows.rleCanonRow.laid) (((OpenSpec.ofChange Rows.rleCanonSpec).at F).post enc Tryd.prog Tryd.f3 false true false false) := by
  obtain ⟨places, hx⟩ := rleCanon_reads os enc
  refine returnsInHanded_of_row (C := Tryd.checked) (s := (OpenSpec.ofChange Rows.rleCanonSpec)) ownD started (by kernel_rfl) Tryd.func3
    (witness_row_at (enc := enc) (C := Tryd.checked) false (rlWorld os) rleCanonArgsW rfl (by kernel_rfl) (by kernel_rfl) (by kernel_rfl)
      (OpenSpec.preRow_of_cond 8 hx (by kernel_rfl) (fun k hk => by cases hk) (by kernel_rfl) (rleCanon_laid_met os))) ?_
  intro W base args ds gs before hval hW _ hcond _ hL hsh _
  exact rleCanon_contract H enc W base args ds gs before hval hW (ground_of_laid hsh hL)

theorem rleCanon_said : Rows.RleCanonSaid :=
  OpenClaim.holds_of_cond 3 Tryd.f3 rfl rfl rfl rfl rfl rfl rfl ⟨rfl, rfl, rfl, rfl, rfl⟩ rfl rfl rfl rfl rfl (by kernel_rfl) Tryd.func3 (by kernel_rfl)
    (of_decide_eq_true (by kernel_rfl)) (by unfold Func.isWrapper; rw [if_neg (of_decide_eq_false (by kernel_rfl))]; exact ⟨rfl, rfl⟩)
    (fun os started H enc _ F => by rw [OpenClaim.pre_eq_preRow]; exact rleCanon_lifted os started H enc F)

theorem rleCanon_plain (f : FuncId) (fn : Func) (hf : Tryd.pinned.checked.prog.funcNamed "lifelodge/lifelodgekeep.RleCanon" = some f) (hfn : Tryd.pinned.checked.prog.funcs[f]? = some fn) :
    false = Tryd.pinned.checked.prog.looks [] ∧ ∀ (j : Nat) t, fn.params[j]? = some t → Tryd.pinned.checked.prog.wantsStandIn t = false := by
  obtain rfl : f = 3 := Option.some.inj ((show Tryd.prog.funcNamed "lifelodge/lifelodgekeep.RleCanon" = some 3 by kernel_rfl).symm.trans hf) |>.symm
  obtain rfl : fn = Tryd.f3 := (Option.some.inj (Tryd.func3.symm.trans hfn)).symm
  refine ⟨by kernel_rfl, fun j t ht => ?_⟩
  rw [Tryd.params3] at ht
  have hm := Array.mem_of_getElem? ht
  simp at hm
  rcases hm with rfl
  exact (show Tryd.prog.wantsStandIn 9 = false by kernel_rfl)

theorem rleCanon_card : Rows.RleCanonCardSaid :=
  Claim7.holds_tied_plain_at .later [] _ _ _ _ rleCanon_said (fun _ h => by cases h) (by kernel_rfl) (fun _ h => by cases h) rleCanon_row_tie rfl ⟨rfl, rfl⟩ (by kernel_rfl) rfl rleCanon_plain (by kernel_rfl)
#print axioms rleCanon_card
end Go.Proofs.YtlcjadgaommfmaaDoor
