/-
  No cell of these rows narrows 'for every input' (looked for: loops, veiled, ifaces, maps, wideKeys, modest, calm, conditions, laid).
  DERIVED. THE GIVEN ROWS OF THIS SEAT. 9 by the template 'for every input the law returns true; each argument reads behind the call as it read before'; 0 by the template 'total and deterministic' (their statements: YtfoipadgicjcaaaTotals.lean).
  GIVEN WITH THE SEED: the statements are not yours to turn. If you find one false, say at which input.
  Laid BY PROGRAM, IN A SANDBOX (cutbox-rows.mjs): the forced cells as the released guide's own fill.sh prints them over the translation a0281837e851bfe4… (all of the seat's roots in one cut). By AI agents, Wed Nov 11 2026. No macro, syntax, notation, axiom, sorry.
-/
import Derived.Test.YtfoipadgicjcaaaChecked
import GoSem.Claim
import GoSem.ClaimJoined
import GoSem.ClaimMapViews
import Derived.JoinedTies
import Derived.KernelRfl
namespace Go.Proofs.Ytfoipadgicjcaaa
/- THE CELL 'sum', in the pinned program and in every row, IS THE sha256 OF THE DUMP (.gsa) THAT YtfoipadgicjcaaaProg.lean LOADS. Nothing in Lean hashes anything: it is a label: what it is worth is what the hold of that sum in a sandbox is worth. -/
noncomputable def Try.pinned : Pinned := { name := "ytfoipadgicjcaaa", sum := "a0281837e851bfe4690900356ba7adbe34109ba600f5421da58d8b56b2fc17f7", checked := Try.checked }
namespace Rows
def none {H : Type} : Left H := { results := [], args := [] }

/-- 'lifelodgekeep.TurnsFair': WHATEVER THE INPUT: true; the input reads as it did. -/
def turnsFairSpec : ChangeSpec := { name := "turnsFair", fn := fun _ => fun
  | [d1, d2] => { results := [.lit (.bool true)], args := [d1, d2] }
  | _ => none }
def turnsFairRow : OpenClaim := { program := "ytfoipadgicjcaaa", sum := "a0281837e851bfe4690900356ba7adbe34109ba600f5421da58d8b56b2fc17f7", func := "lifelodge/lifelodgekeep.TurnsFair", spec := "turnsFair", plainKeys := false, apart := false }
def TurnsFairSaid : Prop := turnsFairRow.holds Try.pinned (OpenSpec.ofChange turnsFairSpec)

/-- ITS FALSE NEIGHBOUR: 'it returns false'. Refute it at one input. -/
def turnsFairWrong : ChangeSpec := { name := "turnsFair", fn := fun _ => fun
  | [d1, d2] => { results := [.lit (.bool false)], args := [d1, d2] }
  | _ => none }
def TurnsFairWrongFalsely : Prop := turnsFairRow.holds Try.pinned (OpenSpec.ofChange turnsFairWrong)

/-- 'lifelodgekeep.ArenaRoom': WHATEVER THE INPUT: true; the input reads as it did. -/
def arenaRoomSpec : ChangeSpec := { name := "arenaRoom", fn := fun _ => fun
  | [d1, d2] => { results := [.lit (.bool true)], args := [d1, d2] }
  | _ => none }
def arenaRoomRow : OpenClaim := { program := "ytfoipadgicjcaaa", sum := "a0281837e851bfe4690900356ba7adbe34109ba600f5421da58d8b56b2fc17f7", func := "lifelodge/lifelodgekeep.ArenaRoom", spec := "arenaRoom", unfollowed := true, recurses := true, plainKeys := false, apart := false }
def ArenaRoomSaid : Prop := arenaRoomRow.holds Try.pinned (OpenSpec.ofChange arenaRoomSpec)

/-- ITS FALSE NEIGHBOUR: 'it returns false'. Refute it at one input. -/
def arenaRoomWrong : ChangeSpec := { name := "arenaRoom", fn := fun _ => fun
  | [d1, d2] => { results := [.lit (.bool false)], args := [d1, d2] }
  | _ => none }
def ArenaRoomWrongFalsely : Prop := arenaRoomRow.holds Try.pinned (OpenSpec.ofChange arenaRoomWrong)

/-- 'lifelodgekeep.ArenaAlone': WHATEVER THE INPUT: true; the input reads as it did. -/
def arenaAloneSpec : ChangeSpec := { name := "arenaAlone", fn := fun _ => fun
  | [d1, d2] => { results := [.lit (.bool true)], args := [d1, d2] }
  | _ => none }
def arenaAloneRow : OpenClaim := { program := "ytfoipadgicjcaaa", sum := "a0281837e851bfe4690900356ba7adbe34109ba600f5421da58d8b56b2fc17f7", func := "lifelodge/lifelodgekeep.ArenaAlone", spec := "arenaAlone", unfollowed := true, recurses := true, plainKeys := false, apart := false }
def ArenaAloneSaid : Prop := arenaAloneRow.holds Try.pinned (OpenSpec.ofChange arenaAloneSpec)

/-- ITS FALSE NEIGHBOUR: 'it returns false'. Refute it at one input. -/
def arenaAloneWrong : ChangeSpec := { name := "arenaAlone", fn := fun _ => fun
  | [d1, d2] => { results := [.lit (.bool false)], args := [d1, d2] }
  | _ => none }
def ArenaAloneWrongFalsely : Prop := arenaAloneRow.holds Try.pinned (OpenSpec.ofChange arenaAloneWrong)

/-- 'lifelodgekeep.PlaneOrder': WHATEVER THE INPUT: true; the input reads as it did. -/
def planeOrderSpec : ChangeSpec := { name := "planeOrder", fn := fun _ => fun
  | [d1, d2] => { results := [.lit (.bool true)], args := [d1, d2] }
  | _ => none }
def planeOrderRow : OpenClaim := { program := "ytfoipadgicjcaaa", sum := "a0281837e851bfe4690900356ba7adbe34109ba600f5421da58d8b56b2fc17f7", func := "lifelodge/lifelodgekeep.PlaneOrder", spec := "planeOrder", unfollowed := true, recurses := true, plainKeys := false, apart := false }
def PlaneOrderSaid : Prop := planeOrderRow.holds Try.pinned (OpenSpec.ofChange planeOrderSpec)

/-- ITS FALSE NEIGHBOUR: 'it returns false'. Refute it at one input. -/
def planeOrderWrong : ChangeSpec := { name := "planeOrder", fn := fun _ => fun
  | [d1, d2] => { results := [.lit (.bool false)], args := [d1, d2] }
  | _ => none }
def PlaneOrderWrongFalsely : Prop := planeOrderRow.holds Try.pinned (OpenSpec.ofChange planeOrderWrong)

/-- 'lifelodgekeep.PlaneBack': WHATEVER THE INPUT: true; the input reads as it did. -/
def planeBackSpec : ChangeSpec := { name := "planeBack", fn := fun _ => fun
  | [d1, d2, d3] => { results := [.lit (.bool true)], args := [d1, d2, d3] }
  | _ => none }
def planeBackRow : OpenClaim := { program := "ytfoipadgicjcaaa", sum := "a0281837e851bfe4690900356ba7adbe34109ba600f5421da58d8b56b2fc17f7", func := "lifelodge/lifelodgekeep.PlaneBack", spec := "planeBack", unfollowed := true, recurses := true, plainKeys := false, apart := false }
def PlaneBackSaid : Prop := planeBackRow.holds Try.pinned (OpenSpec.ofChange planeBackSpec)

/-- ITS FALSE NEIGHBOUR: 'it returns false'. Refute it at one input. -/
def planeBackWrong : ChangeSpec := { name := "planeBack", fn := fun _ => fun
  | [d1, d2, d3] => { results := [.lit (.bool false)], args := [d1, d2, d3] }
  | _ => none }
def PlaneBackWrongFalsely : Prop := planeBackRow.holds Try.pinned (OpenSpec.ofChange planeBackWrong)

/-- 'lifelodgekeep.RuleMirrors': WHATEVER THE INPUT: true; the input reads as it did. -/
def ruleMirrorsSpec : ChangeSpec := { name := "ruleMirrors", fn := fun _ => fun
  | [d1, d2, d3] => { results := [.lit (.bool true)], args := [d1, d2, d3] }
  | _ => none }
def ruleMirrorsRow : OpenClaim := { program := "ytfoipadgicjcaaa", sum := "a0281837e851bfe4690900356ba7adbe34109ba600f5421da58d8b56b2fc17f7", func := "lifelodge/lifelodgekeep.RuleMirrors", spec := "ruleMirrors", unfollowed := true, recurses := true, plainKeys := false, apart := false }
def RuleMirrorsSaid : Prop := ruleMirrorsRow.holds Try.pinned (OpenSpec.ofChange ruleMirrorsSpec)

/-- ITS FALSE NEIGHBOUR: 'it returns false'. Refute it at one input. -/
def ruleMirrorsWrong : ChangeSpec := { name := "ruleMirrors", fn := fun _ => fun
  | [d1, d2, d3] => { results := [.lit (.bool false)], args := [d1, d2, d3] }
  | _ => none }
def RuleMirrorsWrongFalsely : Prop := ruleMirrorsRow.holds Try.pinned (OpenSpec.ofChange ruleMirrorsWrong)

/-- 'lifelodgekeep.PlaneSets': WHATEVER THE INPUT: true; the input reads as it did. -/
def planeSetsSpec : ChangeSpec := { name := "planeSets", fn := fun _ => fun
  | [d1, d2, d3] => { results := [.lit (.bool true)], args := [d1, d2, d3] }
  | _ => none }
def planeSetsRow : OpenClaim := { program := "ytfoipadgicjcaaa", sum := "a0281837e851bfe4690900356ba7adbe34109ba600f5421da58d8b56b2fc17f7", func := "lifelodge/lifelodgekeep.PlaneSets", spec := "planeSets", unfollowed := true, recurses := true, plainKeys := false, apart := false }
def PlaneSetsSaid : Prop := planeSetsRow.holds Try.pinned (OpenSpec.ofChange planeSetsSpec)

/-- ITS FALSE NEIGHBOUR: 'it returns false'. Refute it at one input. -/
def planeSetsWrong : ChangeSpec := { name := "planeSets", fn := fun _ => fun
  | [d1, d2, d3] => { results := [.lit (.bool false)], args := [d1, d2, d3] }
  | _ => none }
def PlaneSetsWrongFalsely : Prop := planeSetsRow.holds Try.pinned (OpenSpec.ofChange planeSetsWrong)

/-- 'lifelodgekeep.RuleNear': WHATEVER THE INPUT: true; the input reads as it did. -/
def ruleNearSpec : ChangeSpec := { name := "ruleNear", fn := fun _ => fun
  | [d1, d2] => { results := [.lit (.bool true)], args := [d1, d2] }
  | _ => none }
def ruleNearRow : OpenClaim := { program := "ytfoipadgicjcaaa", sum := "a0281837e851bfe4690900356ba7adbe34109ba600f5421da58d8b56b2fc17f7", func := "lifelodge/lifelodgekeep.RuleNear", spec := "ruleNear", unfollowed := true, recurses := true, plainKeys := false, apart := false }
def RuleNearSaid : Prop := ruleNearRow.holds Try.pinned (OpenSpec.ofChange ruleNearSpec)

/-- ITS FALSE NEIGHBOUR: 'it returns false'. Refute it at one input. -/
def ruleNearWrong : ChangeSpec := { name := "ruleNear", fn := fun _ => fun
  | [d1, d2] => { results := [.lit (.bool false)], args := [d1, d2] }
  | _ => none }
def RuleNearWrongFalsely : Prop := ruleNearRow.holds Try.pinned (OpenSpec.ofChange ruleNearWrong)

/-- 'lifelodgekeep.RuleMoves': WHATEVER THE INPUT: true; the input reads as it did. -/
def ruleMovesSpec : ChangeSpec := { name := "ruleMoves", fn := fun _ => fun
  | [d1, d2, d3, d4] => { results := [.lit (.bool true)], args := [d1, d2, d3, d4] }
  | _ => none }
def ruleMovesRow : OpenClaim := { program := "ytfoipadgicjcaaa", sum := "a0281837e851bfe4690900356ba7adbe34109ba600f5421da58d8b56b2fc17f7", func := "lifelodge/lifelodgekeep.RuleMoves", spec := "ruleMoves", unfollowed := true, recurses := true, plainKeys := false, apart := false }
def RuleMovesSaid : Prop := ruleMovesRow.holds Try.pinned (OpenSpec.ofChange ruleMovesSpec)

/-- ITS FALSE NEIGHBOUR: 'it returns false'. Refute it at one input. -/
def ruleMovesWrong : ChangeSpec := { name := "ruleMoves", fn := fun _ => fun
  | [d1, d2, d3, d4] => { results := [.lit (.bool false)], args := [d1, d2, d3, d4] }
  | _ => none }
def RuleMovesWrongFalsely : Prop := ruleMovesRow.holds Try.pinned (OpenSpec.ofChange ruleMovesWrong)

/- THE SECOND FORM. 'bulk': how many values and letters a reading holds, each counted each time it is reached (what is shared counts as often as it is met; a slice's spare places count too). A statement '..UptoSaid' is the law's where the arguments, and the package variables that the reading takes, are together of bulk at most 1048576: NARROWER than '..Said'. Prove '..Said' where nothing that the law and all that it calls make is longer than what came in: it says more and counts as full. Else prove '..UptoSaid'. A law counts once. -/
mutual
def uptoBulk {H : Type} : DataW H → Nat
  | .lit (.string bytes) => bytes.length + 1
  | .lit _ => 1
  | .nil => 1
  | .ptr d => uptoBulk d + 1
  | .slice elems spare => uptoBulkAll elems + uptoBulkAll spare + 1
  | .agg parts => uptoBulkAll parts + 1
  | .iface _ d => uptoBulk d + 1
  | .map entries => uptoBulkEntries entries + 1
  | .held _ => 1
def uptoBulkAll {H : Type} : List (DataW H) → Nat
  | [] => 0
  | d :: r => uptoBulk d + uptoBulkAll r
def uptoBulkEntries {H : Type} : List (Lit × DataW H) → Nat
  | [] => 0
  | x :: r => uptoBulkEntry x + uptoBulkEntries r
def uptoBulkEntry {H : Type} : Lit × DataW H → Nat
  | (.string bytes, d) => bytes.length + uptoBulk d + 1
  | (_, d) => uptoBulk d + 1
 end
def uptoSmall : (H : Type) → List (DataW H) → Bool := fun _ ds => decide (uptoBulkAll ds ≤ 1048576)
def OpenSpec.upto (s : _root_.Go.ChangeSpec) : _root_.Go.OpenSpec := { _root_.Go.OpenSpec.ofChange s with cond := some uptoSmall }

/-- 'lifelodgekeep.TurnsFair', WHERE WHAT IT READS IS OF BULK AT MOST 1048576: true; the input reads as it did. -/
def turnsFairUptoRow : OpenClaim := { program := "ytfoipadgicjcaaa", sum := "a0281837e851bfe4690900356ba7adbe34109ba600f5421da58d8b56b2fc17f7", func := "lifelodge/lifelodgekeep.TurnsFair", spec := "turnsFair", plainKeys := false, apart := false, narrowed := true }
def TurnsFairUptoSaid : Prop := turnsFairUptoRow.holds Try.pinned (OpenSpec.upto turnsFairSpec)

/-- 'lifelodgekeep.ArenaRoom', WHERE WHAT IT READS IS OF BULK AT MOST 1048576: true; the input reads as it did. -/
def arenaRoomUptoRow : OpenClaim := { program := "ytfoipadgicjcaaa", sum := "a0281837e851bfe4690900356ba7adbe34109ba600f5421da58d8b56b2fc17f7", func := "lifelodge/lifelodgekeep.ArenaRoom", spec := "arenaRoom", unfollowed := true, recurses := true, plainKeys := false, apart := false, narrowed := true }
def ArenaRoomUptoSaid : Prop := arenaRoomUptoRow.holds Try.pinned (OpenSpec.upto arenaRoomSpec)

/-- 'lifelodgekeep.ArenaAlone', WHERE WHAT IT READS IS OF BULK AT MOST 1048576: true; the input reads as it did. -/
def arenaAloneUptoRow : OpenClaim := { program := "ytfoipadgicjcaaa", sum := "a0281837e851bfe4690900356ba7adbe34109ba600f5421da58d8b56b2fc17f7", func := "lifelodge/lifelodgekeep.ArenaAlone", spec := "arenaAlone", unfollowed := true, recurses := true, plainKeys := false, apart := false, narrowed := true }
def ArenaAloneUptoSaid : Prop := arenaAloneUptoRow.holds Try.pinned (OpenSpec.upto arenaAloneSpec)

/-- 'lifelodgekeep.PlaneOrder', WHERE WHAT IT READS IS OF BULK AT MOST 1048576: true; the input reads as it did. -/
def planeOrderUptoRow : OpenClaim := { program := "ytfoipadgicjcaaa", sum := "a0281837e851bfe4690900356ba7adbe34109ba600f5421da58d8b56b2fc17f7", func := "lifelodge/lifelodgekeep.PlaneOrder", spec := "planeOrder", unfollowed := true, recurses := true, plainKeys := false, apart := false, narrowed := true }
def PlaneOrderUptoSaid : Prop := planeOrderUptoRow.holds Try.pinned (OpenSpec.upto planeOrderSpec)

/-- 'lifelodgekeep.PlaneBack', WHERE WHAT IT READS IS OF BULK AT MOST 1048576: true; the input reads as it did. -/
def planeBackUptoRow : OpenClaim := { program := "ytfoipadgicjcaaa", sum := "a0281837e851bfe4690900356ba7adbe34109ba600f5421da58d8b56b2fc17f7", func := "lifelodge/lifelodgekeep.PlaneBack", spec := "planeBack", unfollowed := true, recurses := true, plainKeys := false, apart := false, narrowed := true }
def PlaneBackUptoSaid : Prop := planeBackUptoRow.holds Try.pinned (OpenSpec.upto planeBackSpec)

/-- 'lifelodgekeep.RuleMirrors', WHERE WHAT IT READS IS OF BULK AT MOST 1048576: true; the input reads as it did. -/
def ruleMirrorsUptoRow : OpenClaim := { program := "ytfoipadgicjcaaa", sum := "a0281837e851bfe4690900356ba7adbe34109ba600f5421da58d8b56b2fc17f7", func := "lifelodge/lifelodgekeep.RuleMirrors", spec := "ruleMirrors", unfollowed := true, recurses := true, plainKeys := false, apart := false, narrowed := true }
def RuleMirrorsUptoSaid : Prop := ruleMirrorsUptoRow.holds Try.pinned (OpenSpec.upto ruleMirrorsSpec)

/-- 'lifelodgekeep.PlaneSets', WHERE WHAT IT READS IS OF BULK AT MOST 1048576: true; the input reads as it did. -/
def planeSetsUptoRow : OpenClaim := { program := "ytfoipadgicjcaaa", sum := "a0281837e851bfe4690900356ba7adbe34109ba600f5421da58d8b56b2fc17f7", func := "lifelodge/lifelodgekeep.PlaneSets", spec := "planeSets", unfollowed := true, recurses := true, plainKeys := false, apart := false, narrowed := true }
def PlaneSetsUptoSaid : Prop := planeSetsUptoRow.holds Try.pinned (OpenSpec.upto planeSetsSpec)

/-- 'lifelodgekeep.RuleNear', WHERE WHAT IT READS IS OF BULK AT MOST 1048576: true; the input reads as it did. -/
def ruleNearUptoRow : OpenClaim := { program := "ytfoipadgicjcaaa", sum := "a0281837e851bfe4690900356ba7adbe34109ba600f5421da58d8b56b2fc17f7", func := "lifelodge/lifelodgekeep.RuleNear", spec := "ruleNear", unfollowed := true, recurses := true, plainKeys := false, apart := false, narrowed := true }
def RuleNearUptoSaid : Prop := ruleNearUptoRow.holds Try.pinned (OpenSpec.upto ruleNearSpec)

/-- 'lifelodgekeep.RuleMoves', WHERE WHAT IT READS IS OF BULK AT MOST 1048576: true; the input reads as it did. -/
def ruleMovesUptoRow : OpenClaim := { program := "ytfoipadgicjcaaa", sum := "a0281837e851bfe4690900356ba7adbe34109ba600f5421da58d8b56b2fc17f7", func := "lifelodge/lifelodgekeep.RuleMoves", spec := "ruleMoves", unfollowed := true, recurses := true, plainKeys := false, apart := false, narrowed := true }
def RuleMovesUptoSaid : Prop := ruleMovesUptoRow.holds Try.pinned (OpenSpec.upto ruleMovesSpec)

end Rows
end Go.Proofs.Ytfoipadgicjcaaa
