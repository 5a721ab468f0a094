/-
  No cell of these rows narrows 'for every input' (looked for: loops, veiled, ifaces, maps, wideKeys, modest, calm, conditions, laid).
  DERIVED. THE GIVEN ROWS OF THIS SEAT. 5 by the template 'for every input the law returns true; each argument reads behind the call as it read before'; 0 by the template 'total and deterministic' (their statements: YtdbhddkkcchmmaaTotals.lean).
  GIVEN WITH THE SEED: the statements are not yours to turn. If you find one false, say at which input.
  Laid BY PROGRAM, IN A SANDBOX (cutbox-rows.mjs): the forced cells as the released guide's own fill.sh prints them over the translation e0d0aef5eac82b10… (all of the seat's roots in one cut). By AI agents, Wed Nov 11 2026. No macro, syntax, notation, axiom, sorry.
-/
import Derived.Test.YtdbhddkkcchmmaaChecked
import GoSem.Claim
import GoSem.ClaimJoined
import GoSem.ClaimMapViews
import Derived.JoinedTies
import Derived.KernelRfl
namespace Go.Proofs.Ytdbhddkkcchmmaa
/- THE CELL 'sum', in the pinned program and in every row, IS THE sha256 OF THE DUMP (.gsa) THAT YtdbhddkkcchmmaaProg.lean LOADS. Nothing in Lean hashes anything: it is a label: what it is worth is what the hold of that sum in a sandbox is worth. -/
noncomputable def Try.pinned : Pinned := { name := "ytdbhddkkcchmmaa", sum := "e0d0aef5eac82b1065cd13b898e3b07c7b666577c0a3b872215a2d43b8b1a86b", checked := Try.checked }
namespace Rows
def none {H : Type} : Left H := { results := [], args := [] }

/-- 'lifelodgekeep.QuadShared': WHATEVER THE INPUT: true; the input reads as it did. -/
def quadSharedSpec : ChangeSpec := { name := "quadShared", fn := fun _ => fun
  | [d1, d2, d3] => { results := [.lit (.bool true)], args := [d1, d2, d3] }
  | _ => none }
def quadSharedRow : OpenClaim := { program := "ytdbhddkkcchmmaa", sum := "e0d0aef5eac82b1065cd13b898e3b07c7b666577c0a3b872215a2d43b8b1a86b", func := "lifelodge/lifelodgekeep.QuadShared", spec := "quadShared", unfollowed := true, recurses := true, plainKeys := false, apart := false }
def QuadSharedSaid : Prop := quadSharedRow.holds Try.pinned (OpenSpec.ofChange quadSharedSpec)

/-- ITS FALSE NEIGHBOUR: 'it returns false'. Refute it at one input. -/
def quadSharedWrong : ChangeSpec := { name := "quadShared", fn := fun _ => fun
  | [d1, d2, d3] => { results := [.lit (.bool false)], args := [d1, d2, d3] }
  | _ => none }
def QuadSharedWrongFalsely : Prop := quadSharedRow.holds Try.pinned (OpenSpec.ofChange quadSharedWrong)

/-- 'lifelodgekeep.QuadEras': WHATEVER THE INPUT: true; the input reads as it did. -/
def quadErasSpec : ChangeSpec := { name := "quadEras", fn := fun _ => fun
  | [d1, d2] => { results := [.lit (.bool true)], args := [d1, d2] }
  | _ => none }
def quadErasRow : OpenClaim := { program := "ytdbhddkkcchmmaa", sum := "e0d0aef5eac82b1065cd13b898e3b07c7b666577c0a3b872215a2d43b8b1a86b", func := "lifelodge/lifelodgekeep.QuadEras", spec := "quadEras", unfollowed := true, recurses := true, plainKeys := false, apart := false }
def QuadErasSaid : Prop := quadErasRow.holds Try.pinned (OpenSpec.ofChange quadErasSpec)

/-- ITS FALSE NEIGHBOUR: 'it returns false'. Refute it at one input. -/
def quadErasWrong : ChangeSpec := { name := "quadEras", fn := fun _ => fun
  | [d1, d2] => { results := [.lit (.bool false)], args := [d1, d2] }
  | _ => none }
def QuadErasWrongFalsely : Prop := quadErasRow.holds Try.pinned (OpenSpec.ofChange quadErasWrong)

/-- 'lifelodgekeep.ArenaUndoes': WHATEVER THE INPUT: true; the input reads as it did. -/
def arenaUndoesSpec : ChangeSpec := { name := "arenaUndoes", fn := fun _ => fun
  | [d1, d2] => { results := [.lit (.bool true)], args := [d1, d2] }
  | _ => none }
def arenaUndoesRow : OpenClaim := { program := "ytdbhddkkcchmmaa", sum := "e0d0aef5eac82b1065cd13b898e3b07c7b666577c0a3b872215a2d43b8b1a86b", func := "lifelodge/lifelodgekeep.ArenaUndoes", spec := "arenaUndoes", unfollowed := true, recurses := true, plainKeys := false, apart := false }
def ArenaUndoesSaid : Prop := arenaUndoesRow.holds Try.pinned (OpenSpec.ofChange arenaUndoesSpec)

/-- ITS FALSE NEIGHBOUR: 'it returns false'. Refute it at one input. -/
def arenaUndoesWrong : ChangeSpec := { name := "arenaUndoes", fn := fun _ => fun
  | [d1, d2] => { results := [.lit (.bool false)], args := [d1, d2] }
  | _ => none }
def ArenaUndoesWrongFalsely : Prop := arenaUndoesRow.holds Try.pinned (OpenSpec.ofChange arenaUndoesWrong)

/-- 'lifelodgekeep.ArenaKeeps': WHATEVER THE INPUT: true; the input reads as it did. -/
def arenaKeepsSpec : ChangeSpec := { name := "arenaKeeps", fn := fun _ => fun
  | [d1, d2] => { results := [.lit (.bool true)], args := [d1, d2] }
  | _ => none }
def arenaKeepsRow : OpenClaim := { program := "ytdbhddkkcchmmaa", sum := "e0d0aef5eac82b1065cd13b898e3b07c7b666577c0a3b872215a2d43b8b1a86b", func := "lifelodge/lifelodgekeep.ArenaKeeps", spec := "arenaKeeps", unfollowed := true, recurses := true, plainKeys := false, apart := false }
def ArenaKeepsSaid : Prop := arenaKeepsRow.holds Try.pinned (OpenSpec.ofChange arenaKeepsSpec)

/-- ITS FALSE NEIGHBOUR: 'it returns false'. Refute it at one input. -/
def arenaKeepsWrong : ChangeSpec := { name := "arenaKeeps", fn := fun _ => fun
  | [d1, d2] => { results := [.lit (.bool false)], args := [d1, d2] }
  | _ => none }
def ArenaKeepsWrongFalsely : Prop := arenaKeepsRow.holds Try.pinned (OpenSpec.ofChange arenaKeepsWrong)

/-- 'lifelodgekeep.QuadOne': WHATEVER THE INPUT: true; the input reads as it did. -/
def quadOneSpec : ChangeSpec := { name := "quadOne", fn := fun _ => fun
  | [d1, d2] => { results := [.lit (.bool true)], args := [d1, d2] }
  | _ => none }
def quadOneRow : OpenClaim := { program := "ytdbhddkkcchmmaa", sum := "e0d0aef5eac82b1065cd13b898e3b07c7b666577c0a3b872215a2d43b8b1a86b", func := "lifelodge/lifelodgekeep.QuadOne", spec := "quadOne", unfollowed := true, recurses := true, plainKeys := false, apart := false }
def QuadOneSaid : Prop := quadOneRow.holds Try.pinned (OpenSpec.ofChange quadOneSpec)

/-- ITS FALSE NEIGHBOUR: 'it returns false'. Refute it at one input. -/
def quadOneWrong : ChangeSpec := { name := "quadOne", fn := fun _ => fun
  | [d1, d2] => { results := [.lit (.bool false)], args := [d1, d2] }
  | _ => none }
def QuadOneWrongFalsely : Prop := quadOneRow.holds Try.pinned (OpenSpec.ofChange quadOneWrong)

/- THE SECOND FORM. 'bulk': how many values and letters a reading holds, each counted each time it is reached (what is shared counts as often as it is met; a slice's spare places count too). A statement '..UptoSaid' is the law's where the arguments, and the package variables that the reading takes, are together of bulk at most 1048576: NARROWER than '..Said'. Prove '..Said' where nothing that the law and all that it calls make is longer than what came in: it says more and counts as full. Else prove '..UptoSaid'. A law counts once. -/
mutual
def uptoBulk {H : Type} : DataW H → Nat
  | .lit (.string bytes) => bytes.length + 1
  | .lit _ => 1
  | .nil => 1
  | .ptr d => uptoBulk d + 1
  | .slice elems spare => uptoBulkAll elems + uptoBulkAll spare + 1
  | .agg parts => uptoBulkAll parts + 1
  | .iface _ d => uptoBulk d + 1
  | .map entries => uptoBulkEntries entries + 1
  | .held _ => 1
def uptoBulkAll {H : Type} : List (DataW H) → Nat
  | [] => 0
  | d :: r => uptoBulk d + uptoBulkAll r
def uptoBulkEntries {H : Type} : List (Lit × DataW H) → Nat
  | [] => 0
  | x :: r => uptoBulkEntry x + uptoBulkEntries r
def uptoBulkEntry {H : Type} : Lit × DataW H → Nat
  | (.string bytes, d) => bytes.length + uptoBulk d + 1
  | (_, d) => uptoBulk d + 1
 end
def uptoSmall : (H : Type) → List (DataW H) → Bool := fun _ ds => decide (uptoBulkAll ds ≤ 1048576)
def OpenSpec.upto (s : _root_.Go.ChangeSpec) : _root_.Go.OpenSpec := { _root_.Go.OpenSpec.ofChange s with cond := some uptoSmall }

/-- 'lifelodgekeep.QuadShared', WHERE WHAT IT READS IS OF BULK AT MOST 1048576: true; the input reads as it did. -/
def quadSharedUptoRow : OpenClaim := { program := "ytdbhddkkcchmmaa", sum := "e0d0aef5eac82b1065cd13b898e3b07c7b666577c0a3b872215a2d43b8b1a86b", func := "lifelodge/lifelodgekeep.QuadShared", spec := "quadShared", unfollowed := true, recurses := true, plainKeys := false, apart := false, narrowed := true }
def QuadSharedUptoSaid : Prop := quadSharedUptoRow.holds Try.pinned (OpenSpec.upto quadSharedSpec)

/-- 'lifelodgekeep.QuadEras', WHERE WHAT IT READS IS OF BULK AT MOST 1048576: true; the input reads as it did. -/
def quadErasUptoRow : OpenClaim := { program := "ytdbhddkkcchmmaa", sum := "e0d0aef5eac82b1065cd13b898e3b07c7b666577c0a3b872215a2d43b8b1a86b", func := "lifelodge/lifelodgekeep.QuadEras", spec := "quadEras", unfollowed := true, recurses := true, plainKeys := false, apart := false, narrowed := true }
def QuadErasUptoSaid : Prop := quadErasUptoRow.holds Try.pinned (OpenSpec.upto quadErasSpec)

/-- 'lifelodgekeep.ArenaUndoes', WHERE WHAT IT READS IS OF BULK AT MOST 1048576: true; the input reads as it did. -/
def arenaUndoesUptoRow : OpenClaim := { program := "ytdbhddkkcchmmaa", sum := "e0d0aef5eac82b1065cd13b898e3b07c7b666577c0a3b872215a2d43b8b1a86b", func := "lifelodge/lifelodgekeep.ArenaUndoes", spec := "arenaUndoes", unfollowed := true, recurses := true, plainKeys := false, apart := false, narrowed := true }
def ArenaUndoesUptoSaid : Prop := arenaUndoesUptoRow.holds Try.pinned (OpenSpec.upto arenaUndoesSpec)

/-- 'lifelodgekeep.ArenaKeeps', WHERE WHAT IT READS IS OF BULK AT MOST 1048576: true; the input reads as it did. -/
def arenaKeepsUptoRow : OpenClaim := { program := "ytdbhddkkcchmmaa", sum := "e0d0aef5eac82b1065cd13b898e3b07c7b666577c0a3b872215a2d43b8b1a86b", func := "lifelodge/lifelodgekeep.ArenaKeeps", spec := "arenaKeeps", unfollowed := true, recurses := true, plainKeys := false, apart := false, narrowed := true }
def ArenaKeepsUptoSaid : Prop := arenaKeepsUptoRow.holds Try.pinned (OpenSpec.upto arenaKeepsSpec)

/-- 'lifelodgekeep.QuadOne', WHERE WHAT IT READS IS OF BULK AT MOST 1048576: true; the input reads as it did. -/
def quadOneUptoRow : OpenClaim := { program := "ytdbhddkkcchmmaa", sum := "e0d0aef5eac82b1065cd13b898e3b07c7b666577c0a3b872215a2d43b8b1a86b", func := "lifelodge/lifelodgekeep.QuadOne", spec := "quadOne", unfollowed := true, recurses := true, plainKeys := false, apart := false, narrowed := true }
def QuadOneUptoSaid : Prop := quadOneUptoRow.holds Try.pinned (OpenSpec.upto quadOneSpec)

end Rows
end Go.Proofs.Ytdbhddkkcchmmaa
