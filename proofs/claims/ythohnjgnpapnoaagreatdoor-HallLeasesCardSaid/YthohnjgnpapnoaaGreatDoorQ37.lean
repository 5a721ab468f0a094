/- lifelodgekeep.HallLeases: whatever its arguments: it returns true, and its arguments read behind the call as they read before. The card: its listed variables tied to the program's text. -/
import Derived.Test.YthohnjgnpapnoaaGreatDoorQ34
import Derived.Test.YthohnjgnpapnoaaGreatDoorQ36
set_option linter.unusedVariables false
set_option linter.unusedSimpArgs false
namespace Go.Proofs.YthohnjgnpapnoaaGreatDoor
open Go.ChangeShapes Go.WideShapes Go.ChangeAt Go.RowKit Go.ChangeMaps
set_option maxRecDepth 100000 in
theorem hallLeases_contract (H:Type) (enc:TypeId×Value→H) (W:World) (base:Nat) (args:Array Value) (ds gs:List (DataW H)) (before:List MemPlace)
 (hval:∀(j:Nat) t v,Tryz.f8.params[j]? =some t→args[j]? =some v→Value.okWide Tryz.prog W .any base t v)
 (hW:DataW.Whole enc Tryz.prog Tryz.f8.params.toList Rows.hallLeasesSpec.vars false W args.toList ds gs before) (hG:4<W.heap.size∧tabOk W):
 Calls Tryz.prog 8 args W fun e W'=>∃v,e= .returned v∧Rows.hallLeasesSpec.post enc Tryz.prog Tryz.f8 false true false false W args v W':=by
 have hW':=hW
 obtain ⟨p,q,hA0,hV,rfl,hfz,hnd⟩:=hW
 have hA:DataW.TrodAll enc Tryz.prog W 0 (fun _=>true) true Tryz.f8.params.toList args.toList ds p:=hA0
 rw [Tryz.params8] at hA hval
 obtain ⟨v0,v1,d0,d1,p0,p1,rfl,rfl,rfl,h0,h1⟩:=trodAll_two hA
 obtain ⟨rfl,rfl⟩:=trodVars_none hV
 obtain ⟨n,l,hR,hin,_⟩:=cells_of (hval 0 55 v0 rfl rfl) h0
 obtain ⟨n0,rfl,rfl,_,w0⟩:=open_int Tryz.underlying3 (hval 1 3 v1 rfl rfl) h1
 have hb0: -9223372036854775808≤n0∧n0≤9223372036854775807:=by simpa [Lit.wf,IntKind.min,IntKind.max,IntKind.signed,IntKind.bits] using w0
 refine (leases_any W n v0 l n0 hR hin hb0 hG).mono fun e W' ⟨he,hb⟩=>?_
 subst he
 exact ⟨_,rfl,law_post laidOutD (by rw [Tryz.params8];intro t ht;simp at ht;rcases ht with rfl | rfl<;>exact ⟨by kernel_rfl,of_decide_eq_true (by kernel_rfl)⟩) rfl hW' hb (tb:=4) rfl Tryz.underlying4 rfl rfl rfl⟩
abbrev hallLeasesArgsW:Array Value:=#[.slice none 0 0,.int .i64 0]
theorem hallLeases_laid_met (os:Os):laidMet Tryz.prog Rows.hallLeasesRow.laid ((keysWorld os).forCall (fun _ _=>0) ⟨#[],hallLeasesArgsW,[]⟩).memory:=
 laidMet_of_run' 8 (by kernel_rfl) (by kernel_rfl)
theorem hallLeases_reads (os:Os) {H:Type} (enc:TypeId×Value→H):∃places,DataW.whole enc Tryz.prog ((keysWorld os).forCall (fun _ _=>0) ⟨#[],hallLeasesArgsW,[]⟩).memory Tryz.f8.params.toList Rows.hallLeasesSpec.vars false hallLeasesArgsW.toList 8=some ([.nil,.lit (.int .i64 0)],[],places):=
 ⟨[],by kernel_rfl⟩
set_option maxRecDepth 100000 in
theorem hallLeases_lifted (os:Os) (started:os.Started) (H:Type) (enc:TypeId×Value→H) (F:Stop.Interp):
 ReturnsInHanded {} Tryz.checked os 8 .any ((OpenSpec.ofChange Rows.hallLeasesSpec).preRow enc Tryz.prog Tryz.f8 Rows.hallLeasesRow.domain false Rows.hallLeasesRow.laid) (((OpenSpec.ofChange Rows.hallLeasesSpec).at F).post enc Tryz.prog Tryz.f8 false true false false):=by
 obtain ⟨places,hx⟩:=hallLeases_reads os enc
 refine returnsInHanded_of_row (C:=Tryz.checked) (s:=(OpenSpec.ofChange Rows.hallLeasesSpec)) ownD started (by kernel_rfl) Tryz.func8
  (witness_row_at (enc:=enc) (C:=Tryz.checked) false (keysWorld os) hallLeasesArgsW rfl (by kernel_rfl) (by kernel_rfl) (by kernel_rfl)
    (OpenSpec.preRow_of_cond 8 hx (by kernel_rfl) (fun k hk=>by cases hk) (by kernel_rfl) (hallLeases_laid_met os))) ?_
 intro W base args ds gs before hval hW _ hcond _ hL hsh _
 exact hallLeases_contract H enc W base args ds gs before hval hW (hallG_of_laid hL)
theorem hallLeases_said:Rows.HallLeasesSaid:=
 OpenClaim.holds_of_cond 8 Tryz.f8 rfl rfl rfl rfl rfl rfl rfl ⟨rfl,rfl,rfl,rfl,rfl⟩ rfl rfl rfl rfl rfl (by kernel_rfl) Tryz.func8 (by kernel_rfl)
  (of_decide_eq_true (by kernel_rfl)) (by unfold Func.isWrapper;rw [if_neg (of_decide_eq_false (by kernel_rfl))];exact ⟨rfl,rfl⟩)
  (fun os started H enc _ F=>by rw [OpenClaim.pre_eq_preRow];exact hallLeases_lifted os started H enc F)
theorem hallLeases_plain (f:FuncId) (fn:Func) (hf:Tryz.pinned.checked.prog.funcNamed "lifelodge/lifelodgekeep.HallLeases" =some f) (hfn:Tryz.pinned.checked.prog.funcs[f]? =some fn):
 true=Tryz.pinned.checked.prog.looks []∧∀(j:Nat) t,fn.params[j]? =some t→Tryz.pinned.checked.prog.wantsStandIn t=false:=by
 obtain rfl:f=8:=Option.some.inj ((show Tryz.prog.funcNamed "lifelodge/lifelodgekeep.HallLeases" =some 8 by kernel_rfl).symm.trans hf) |>.symm
 obtain rfl:fn=Tryz.f8:=(Option.some.inj (Tryz.func8.symm.trans hfn)).symm
 refine ⟨by kernel_rfl,fun j t ht=>?_⟩
 rw [Tryz.params8] at ht
 have hm:=Array.mem_of_getElem? ht
 simp at hm
 rcases hm with rfl | rfl
 ·exact (show Tryz.prog.wantsStandIn 55=false by kernel_rfl)
 ·exact (show Tryz.prog.wantsStandIn 3=false by kernel_rfl)
theorem hallLeases_card:Rows.HallLeasesCardSaid:=
 Claim7.holds_tied_plain_at .later [] _ _ _ _ hallLeases_said (fun _ h=>by cases h) (by kernel_rfl) (fun _ h=>by cases h) hallLeases_row_tie rfl ⟨rfl,rfl⟩ (by kernel_rfl) rfl hallLeases_plain (by kernel_rfl)
#print axioms hallLeases_card
end Go.Proofs.YthohnjgnpapnoaaGreatDoor
