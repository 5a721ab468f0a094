/- lifelodgekeep.HallRefuses: whatever its arguments, of bulk at most 1048576 together: it returns true, and its arguments read behind the call as they read before. The card: its listed variables tied to the program's text. -/
import Derived.Test.YthohnjgnpapnoaaGreatDoorR35
import Derived.Test.YthohnjgnpapnoaaGreatDoorT37
set_option linter.unusedVariables false
set_option linter.unusedSimpArgs false
namespace Go.Proofs.YthohnjgnpapnoaaGreatDoor
open Go.ChangeShapes Go.WideShapes Go.ChangeAt Go.RowKit Go.ChangeMaps
set_option maxRecDepth 100000 in
theorem hallRefuses_contract (H:Type) (enc:TypeId×Value→H) (W:World) (base:Nat) (args:Array Value) (ds gs:List (DataW H)) (before:List MemPlace)
 (hval:∀(j:Nat) t v,Tryz.f6.params[j]? =some t→args[j]? =some v→Value.okWide Tryz.prog W .any base t v)
 (hW:DataW.Whole enc Tryz.prog Tryz.f6.params.toList Rows.hallRefusesSpec.vars false W args.toList ds gs before) (hG:4<W.heap.size∧tabOk W) (hk:Rows.uptoSmall H (ds++gs)=true):
 Calls Tryz.prog 6 args W fun e W'=>∃v,e= .returned v∧Rows.hallRefusesSpec.post enc Tryz.prog Tryz.f6 false true false false W args v W':=by
 have hW':=hW
 obtain ⟨p,q,hA0,hV,rfl,hfz,hnd⟩:=hW
 have hA:DataW.TrodAll enc Tryz.prog W 0 (fun _=>true) true Tryz.f6.params.toList args.toList ds p:=hA0
 rw [Tryz.params6] at hA hval
 obtain ⟨v0,v1,d0,d1,p0,p1,rfl,rfl,rfl,h0,h1⟩:=trodAll_two hA
 obtain ⟨rfl,rfl⟩:=trodVars_none hV
 obtain ⟨n0,rfl,rfl,_,w0⟩:=open_int Tryz.underlying3 (hval 0 3 v0 rfl rfl) h0
 have hb0: -9223372036854775808≤n0∧n0≤9223372036854775807:=by simpa [Lit.wf,IntKind.min,IntKind.max,IntKind.signed,IntKind.bits] using w0
 obtain ⟨N,L,hR⟩:=reqs_of (hval 1 45 v1 rfl rfl) h1 (by
  have h:=of_decide_eq_true hk
  simp only [List.append_nil,Rows.uptoBulkAll] at h
  omega)
 refine (refuses_any W n0 hb0 N v1 L hR hG).mono fun e W' ⟨he,hb⟩=>?_
 subst he
 exact ⟨_,rfl,law_post laidOutD (by rw [Tryz.params6];intro t ht;simp at ht;rcases ht with rfl | rfl<;>exact ⟨by kernel_rfl,of_decide_eq_true (by kernel_rfl)⟩) rfl hW' hb (tb:=4) rfl Tryz.underlying4 rfl rfl rfl⟩
abbrev hallRefusesArgsW:Array Value:=#[.int .i64 0,.slice none 0 0]
theorem hallRefuses_laid_met (os:Os):laidMet Tryz.prog Rows.hallRefusesUptoRow.laid ((keysWorld os).forCall (fun _ _=>0) ⟨#[],hallRefusesArgsW,[]⟩).memory:=
 laidMet_of_run' 8 (by kernel_rfl) (by kernel_rfl)
theorem hallRefuses_reads (os:Os) {H:Type} (enc:TypeId×Value→H):∃places,DataW.whole enc Tryz.prog ((keysWorld os).forCall (fun _ _=>0) ⟨#[],hallRefusesArgsW,[]⟩).memory Tryz.f6.params.toList Rows.hallRefusesSpec.vars false hallRefusesArgsW.toList 8=some ([.lit (.int .i64 0),.nil],[],places):=
 ⟨[],by kernel_rfl⟩
set_option maxRecDepth 100000 in
theorem hallRefuses_lifted (os:Os) (started:os.Started) (H:Type) (enc:TypeId×Value→H) (F:Stop.Interp):
 ReturnsInHanded {} Tryz.checked os 6 .any ((Rows.OpenSpec.upto Rows.hallRefusesSpec).preRow enc Tryz.prog Tryz.f6 Rows.hallRefusesUptoRow.domain false Rows.hallRefusesUptoRow.laid) (((Rows.OpenSpec.upto Rows.hallRefusesSpec).at F).post enc Tryz.prog Tryz.f6 false true false false):=by
 obtain ⟨places,hx⟩:=hallRefuses_reads os enc
 refine returnsInHanded_of_row (C:=Tryz.checked) (s:=(Rows.OpenSpec.upto Rows.hallRefusesSpec)) ownD started (by kernel_rfl) Tryz.func6
  (witness_row_at (enc:=enc) (C:=Tryz.checked) false (keysWorld os) hallRefusesArgsW rfl (by kernel_rfl) (by kernel_rfl) (by kernel_rfl)
    (OpenSpec.preRow_of_cond 8 hx (by kernel_rfl) (fun k hk=>by cases hk;kernel_rfl) (by kernel_rfl) (hallRefuses_laid_met os))) ?_
 intro W base args ds gs before hval hW _ hcond _ hL hsh _
 exact hallRefuses_contract H enc W base args ds gs before hval hW (hallG_of_laid hL) (hcond _ rfl)
theorem hallRefuses_said:Rows.HallRefusesUptoSaid:=
 OpenClaim.holds_of_cond 6 Tryz.f6 rfl rfl rfl rfl rfl rfl rfl ⟨rfl,rfl,rfl,rfl,rfl⟩ rfl rfl rfl rfl rfl (by kernel_rfl) Tryz.func6 (by kernel_rfl)
  (of_decide_eq_true (by kernel_rfl)) (by unfold Func.isWrapper;rw [if_neg (of_decide_eq_false (by kernel_rfl))];exact ⟨rfl,rfl⟩)
  (fun os started H enc _ F=>by rw [OpenClaim.pre_eq_preRow];exact hallRefuses_lifted os started H enc F)
theorem hallRefuses_plain (f:FuncId) (fn:Func) (hf:Tryz.pinned.checked.prog.funcNamed "lifelodge/lifelodgekeep.HallRefuses" =some f) (hfn:Tryz.pinned.checked.prog.funcs[f]? =some fn):
 true=Tryz.pinned.checked.prog.looks []∧∀(j:Nat) t,fn.params[j]? =some t→Tryz.pinned.checked.prog.wantsStandIn t=false:=by
 obtain rfl:f=6:=Option.some.inj ((show Tryz.prog.funcNamed "lifelodge/lifelodgekeep.HallRefuses" =some 6 by kernel_rfl).symm.trans hf) |>.symm
 obtain rfl:fn=Tryz.f6:=(Option.some.inj (Tryz.func6.symm.trans hfn)).symm
 refine ⟨by kernel_rfl,fun j t ht=>?_⟩
 rw [Tryz.params6] at ht
 have hm:=Array.mem_of_getElem? ht
 simp at hm
 rcases hm with rfl | rfl
 ·exact (show Tryz.prog.wantsStandIn 3=false by kernel_rfl)
 ·exact (show Tryz.prog.wantsStandIn 45=false by kernel_rfl)
theorem hallRefuses_card:Rows.HallRefusesUptoCardSaid:=
 Claim7.holds_tied_plain_at .later [] _ _ _ _ hallRefuses_said (fun _ h=>by cases h) (by kernel_rfl) (fun _ h=>by cases h) hallRefusesUpto_row_tie rfl ⟨rfl,rfl⟩ (by kernel_rfl) rfl hallRefuses_plain (by kernel_rfl)
#print axioms hallRefuses_card
end Go.Proofs.YthohnjgnpapnoaaGreatDoor
