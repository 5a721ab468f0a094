/- lifelodgekeep.HallRoomy: whatever its arguments, of bulk at most 1048576 together: it returns true, and its arguments read behind the call as they read before. The card: its listed variables tied to the program's text. -/
import Derived.Test.YthohnjgnpapnoaaGreatDoorR35
import Derived.Test.YthohnjgnpapnoaaGreatDoorR36
set_option linter.unusedVariables false
set_option linter.unusedSimpArgs false
namespace Go.Proofs.YthohnjgnpapnoaaGreatDoor
open Go.ChangeShapes Go.WideShapes Go.ChangeAt Go.RowKit Go.ChangeMaps
set_option maxRecDepth 100000 in
theorem hallRoomy_contract (H:Type) (enc:TypeId×Value→H) (W:World) (base:Nat) (args:Array Value) (ds gs:List (DataW H)) (before:List MemPlace)
 (hval:∀(j:Nat) t v,Tryz.f7.params[j]? =some t→args[j]? =some v→Value.okWide Tryz.prog W .any base t v)
 (hW:DataW.Whole enc Tryz.prog Tryz.f7.params.toList Rows.hallRoomySpec.vars false W args.toList ds gs before) (hG:4<W.heap.size∧tabOk W) (hk:Rows.uptoSmall H (ds++gs)=true):
 Calls Tryz.prog 7 args W fun e W'=>∃v,e= .returned v∧Rows.hallRoomySpec.post enc Tryz.prog Tryz.f7 false true false false W args v W':=by
 have hW':=hW
 obtain ⟨p,q,hA0,hV,rfl,hfz,hnd⟩:=hW
 have hA:DataW.TrodAll enc Tryz.prog W 0 (fun _=>true) true Tryz.f7.params.toList args.toList ds p:=hA0
 rw [Tryz.params7] at hA hval
 obtain ⟨v0,d0,rfl,rfl,h0⟩:=trodAll_one hA
 obtain ⟨rfl,rfl⟩:=trodVars_none hV
 obtain ⟨N,L,hR⟩:=reqs_of (hval 0 45 v0 rfl rfl) h0 (by
  have h:=of_decide_eq_true hk
  simp only [List.append_nil,Rows.uptoBulkAll] at h
  omega)
 refine (roomy_any W N v0 L hR hG).mono fun e W' ⟨he,hb⟩=>?_
 subst he
 exact ⟨_,rfl,law_post laidOutD (by rw [Tryz.params7];intro t ht;simp at ht;rcases ht with rfl;exact ⟨by kernel_rfl,of_decide_eq_true (by kernel_rfl)⟩) rfl hW' hb (tb:=4) rfl Tryz.underlying4 rfl rfl rfl⟩
abbrev hallRoomyArgsW:Array Value:=#[.slice none 0 0]
theorem hallRoomy_laid_met (os:Os):laidMet Tryz.prog Rows.hallRoomyUptoRow.laid ((keysWorld os).forCall (fun _ _=>0) ⟨#[],hallRoomyArgsW,[]⟩).memory:=
 laidMet_of_run' 8 (by kernel_rfl) (by kernel_rfl)
theorem hallRoomy_reads (os:Os) {H:Type} (enc:TypeId×Value→H):∃places,DataW.whole enc Tryz.prog ((keysWorld os).forCall (fun _ _=>0) ⟨#[],hallRoomyArgsW,[]⟩).memory Tryz.f7.params.toList Rows.hallRoomySpec.vars false hallRoomyArgsW.toList 8=some ([.nil],[],places):=
 ⟨[],by kernel_rfl⟩
set_option maxRecDepth 100000 in
theorem hallRoomy_lifted (os:Os) (started:os.Started) (H:Type) (enc:TypeId×Value→H) (F:Stop.Interp):
 ReturnsInHanded {} Tryz.checked os 7 .any ((Rows.OpenSpec.upto Rows.hallRoomySpec).preRow enc Tryz.prog Tryz.f7 Rows.hallRoomyUptoRow.domain false Rows.hallRoomyUptoRow.laid) (((Rows.OpenSpec.upto Rows.hallRoomySpec).at F).post enc Tryz.prog Tryz.f7 false true false false):=by
 obtain ⟨places,hx⟩:=hallRoomy_reads os enc
 refine returnsInHanded_of_row (C:=Tryz.checked) (s:=(Rows.OpenSpec.upto Rows.hallRoomySpec)) ownD started (by kernel_rfl) Tryz.func7
  (witness_row_at (enc:=enc) (C:=Tryz.checked) false (keysWorld os) hallRoomyArgsW rfl (by kernel_rfl) (by kernel_rfl) (by kernel_rfl)
    (OpenSpec.preRow_of_cond 8 hx (by kernel_rfl) (fun k hk=>by cases hk;kernel_rfl) (by kernel_rfl) (hallRoomy_laid_met os))) ?_
 intro W base args ds gs before hval hW _ hcond _ hL hsh _
 exact hallRoomy_contract H enc W base args ds gs before hval hW (hallG_of_laid hL) (hcond _ rfl)
theorem hallRoomy_said:Rows.HallRoomyUptoSaid:=
 OpenClaim.holds_of_cond 7 Tryz.f7 rfl rfl rfl rfl rfl rfl rfl ⟨rfl,rfl,rfl,rfl,rfl⟩ rfl rfl rfl rfl rfl (by kernel_rfl) Tryz.func7 (by kernel_rfl)
  (of_decide_eq_true (by kernel_rfl)) (by unfold Func.isWrapper;rw [if_neg (of_decide_eq_false (by kernel_rfl))];exact ⟨rfl,rfl⟩)
  (fun os started H enc _ F=>by rw [OpenClaim.pre_eq_preRow];exact hallRoomy_lifted os started H enc F)
theorem hallRoomy_plain (f:FuncId) (fn:Func) (hf:Tryz.pinned.checked.prog.funcNamed "lifelodge/lifelodgekeep.HallRoomy" =some f) (hfn:Tryz.pinned.checked.prog.funcs[f]? =some fn):
 true=Tryz.pinned.checked.prog.looks []∧∀(j:Nat) t,fn.params[j]? =some t→Tryz.pinned.checked.prog.wantsStandIn t=false:=by
 obtain rfl:f=7:=Option.some.inj ((show Tryz.prog.funcNamed "lifelodge/lifelodgekeep.HallRoomy" =some 7 by kernel_rfl).symm.trans hf) |>.symm
 obtain rfl:fn=Tryz.f7:=(Option.some.inj (Tryz.func7.symm.trans hfn)).symm
 refine ⟨by kernel_rfl,fun j t ht=>?_⟩
 rw [Tryz.params7] at ht
 have hm:=Array.mem_of_getElem? ht
 simp at hm
 rcases hm with rfl
 exact (show Tryz.prog.wantsStandIn 45=false by kernel_rfl)
theorem hallRoomy_card:Rows.HallRoomyUptoCardSaid:=
 Claim7.holds_tied_plain_at .later [] _ _ _ _ hallRoomy_said (fun _ h=>by cases h) (by kernel_rfl) (fun _ h=>by cases h) hallRoomyUpto_row_tie rfl ⟨rfl,rfl⟩ (by kernel_rfl) rfl hallRoomy_plain (by kernel_rfl)
#print axioms hallRoomy_card
end Go.Proofs.YthohnjgnpapnoaaGreatDoor
