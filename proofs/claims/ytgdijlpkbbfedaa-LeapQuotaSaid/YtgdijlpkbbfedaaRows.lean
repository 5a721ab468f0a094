/-
  No cell of these rows narrows 'for every input' (looked for: loops, veiled, ifaces, maps, wideKeys, modest, calm, conditions, laid).
  DERIVED. THE GIVEN ROWS OF THIS SEAT. 5 by the template 'for every input the law returns true; each argument reads behind the call as it read before'; 0 by the template 'total and deterministic' (their statements: YtgdijlpkbbfedaaTotals.lean).
  GIVEN WITH THE SEED: the statements are not yours to turn. If you find one false, say at which input.
  Laid BY PROGRAM, IN A SANDBOX (cutbox-rows.mjs): the forced cells as the released guide's own fill.sh prints them over the translation 53ba46f6a0cee796… (all of the seat's roots in one cut). By AI agents, Wed Nov 11 2026. No macro, syntax, notation, axiom, sorry.
-/
import Derived.Test.YtgdijlpkbbfedaaChecked
import GoSem.Claim
import GoSem.ClaimJoined
import GoSem.ClaimMapViews
import Derived.JoinedTies
import Derived.KernelRfl
namespace Go.Proofs.Ytgdijlpkbbfedaa
/- THE CELL 'sum', in the pinned program and in every row, IS THE sha256 OF THE DUMP (.gsa) THAT YtgdijlpkbbfedaaProg.lean LOADS. Nothing in Lean hashes anything: it is a label: what it is worth is what the hold of that sum in a sandbox is worth. -/
noncomputable def Try.pinned : Pinned := { name := "ytgdijlpkbbfedaa", sum := "53ba46f6a0cee796bc431093e3d4e482481e1f6b59c5373f7556f5f0d3a81523", checked := Try.checked }
namespace Rows
def none {H : Type} : Left H := { results := [], args := [] }

/-- 'lifelodgekeep.LeapAdds': WHATEVER THE INPUT: true; the input reads as it did. -/
def leapAddsSpec : ChangeSpec := { name := "leapAdds", fn := fun _ => fun
  | [d1, d2, d3, d4] => { results := [.lit (.bool true)], args := [d1, d2, d3, d4] }
  | _ => none }
def leapAddsRow : OpenClaim := { program := "ytgdijlpkbbfedaa", sum := "53ba46f6a0cee796bc431093e3d4e482481e1f6b59c5373f7556f5f0d3a81523", func := "lifelodge/lifelodgekeep.LeapAdds", spec := "leapAdds", unfollowed := true, recurses := true, plainKeys := false, apart := false }
def LeapAddsSaid : Prop := leapAddsRow.holds Try.pinned (OpenSpec.ofChange leapAddsSpec)

/-- ITS FALSE NEIGHBOUR: 'it returns false'. Refute it at one input. -/
def leapAddsWrong : ChangeSpec := { name := "leapAdds", fn := fun _ => fun
  | [d1, d2, d3, d4] => { results := [.lit (.bool false)], args := [d1, d2, d3, d4] }
  | _ => none }
def LeapAddsWrongFalsely : Prop := leapAddsRow.holds Try.pinned (OpenSpec.ofChange leapAddsWrong)

/-- 'lifelodgekeep.LeapStill': WHATEVER THE INPUT: true; the input reads as it did. -/
def leapStillSpec : ChangeSpec := { name := "leapStill", fn := fun _ => fun
  | [d1, d2, d3] => { results := [.lit (.bool true)], args := [d1, d2, d3] }
  | _ => none }
def leapStillRow : OpenClaim := { program := "ytgdijlpkbbfedaa", sum := "53ba46f6a0cee796bc431093e3d4e482481e1f6b59c5373f7556f5f0d3a81523", func := "lifelodge/lifelodgekeep.LeapStill", spec := "leapStill", unfollowed := true, recurses := true, plainKeys := false, apart := false }
def LeapStillSaid : Prop := leapStillRow.holds Try.pinned (OpenSpec.ofChange leapStillSpec)

/-- ITS FALSE NEIGHBOUR: 'it returns false'. Refute it at one input. -/
def leapStillWrong : ChangeSpec := { name := "leapStill", fn := fun _ => fun
  | [d1, d2, d3] => { results := [.lit (.bool false)], args := [d1, d2, d3] }
  | _ => none }
def LeapStillWrongFalsely : Prop := leapStillRow.holds Try.pinned (OpenSpec.ofChange leapStillWrong)

/-- 'lifelodgekeep.LeapGlides': WHATEVER THE INPUT: true; the input reads as it did. -/
def leapGlidesSpec : ChangeSpec := { name := "leapGlides", fn := fun _ => fun
  | [d] => { results := [.lit (.bool true)], args := [d] }
  | _ => none }
def leapGlidesRow : OpenClaim := { program := "ytgdijlpkbbfedaa", sum := "53ba46f6a0cee796bc431093e3d4e482481e1f6b59c5373f7556f5f0d3a81523", func := "lifelodge/lifelodgekeep.LeapGlides", spec := "leapGlides", unfollowed := true, recurses := true, plainKeys := false, apart := false }
def LeapGlidesSaid : Prop := leapGlidesRow.holds Try.pinned (OpenSpec.ofChange leapGlidesSpec)

/-- ITS FALSE NEIGHBOUR: 'it returns false'. Refute it at one input. -/
def leapGlidesWrong : ChangeSpec := { name := "leapGlides", fn := fun _ => fun
  | [d] => { results := [.lit (.bool false)], args := [d] }
  | _ => none }
def LeapGlidesWrongFalsely : Prop := leapGlidesRow.holds Try.pinned (OpenSpec.ofChange leapGlidesWrong)

/-- 'lifelodgekeep.LeapQuota': WHATEVER THE INPUT: true; the input reads as it did. -/
def leapQuotaSpec : ChangeSpec := { name := "leapQuota", fn := fun _ => fun
  | [d1, d2, d3, d4] => { results := [.lit (.bool true)], args := [d1, d2, d3, d4] }
  | _ => none }
def leapQuotaRow : OpenClaim := { program := "ytgdijlpkbbfedaa", sum := "53ba46f6a0cee796bc431093e3d4e482481e1f6b59c5373f7556f5f0d3a81523", func := "lifelodge/lifelodgekeep.LeapQuota", spec := "leapQuota", unfollowed := true, recurses := true, plainKeys := false, apart := false }
def LeapQuotaSaid : Prop := leapQuotaRow.holds Try.pinned (OpenSpec.ofChange leapQuotaSpec)

/-- ITS FALSE NEIGHBOUR: 'it returns false'. Refute it at one input. -/
def leapQuotaWrong : ChangeSpec := { name := "leapQuota", fn := fun _ => fun
  | [d1, d2, d3, d4] => { results := [.lit (.bool false)], args := [d1, d2, d3, d4] }
  | _ => none }
def LeapQuotaWrongFalsely : Prop := leapQuotaRow.holds Try.pinned (OpenSpec.ofChange leapQuotaWrong)

/-- 'lifelodgekeep.LeapMoves': WHATEVER THE INPUT: true; the input reads as it did. -/
def leapMovesSpec : ChangeSpec := { name := "leapMoves", fn := fun _ => fun
  | [d1, d2, d3, d4, d5] => { results := [.lit (.bool true)], args := [d1, d2, d3, d4, d5] }
  | _ => none }
def leapMovesRow : OpenClaim := { program := "ytgdijlpkbbfedaa", sum := "53ba46f6a0cee796bc431093e3d4e482481e1f6b59c5373f7556f5f0d3a81523", func := "lifelodge/lifelodgekeep.LeapMoves", spec := "leapMoves", unfollowed := true, recurses := true, plainKeys := false, apart := false }
def LeapMovesSaid : Prop := leapMovesRow.holds Try.pinned (OpenSpec.ofChange leapMovesSpec)

/-- ITS FALSE NEIGHBOUR: 'it returns false'. Refute it at one input. -/
def leapMovesWrong : ChangeSpec := { name := "leapMoves", fn := fun _ => fun
  | [d1, d2, d3, d4, d5] => { results := [.lit (.bool false)], args := [d1, d2, d3, d4, d5] }
  | _ => none }
def LeapMovesWrongFalsely : Prop := leapMovesRow.holds Try.pinned (OpenSpec.ofChange leapMovesWrong)

/- THE SECOND FORM. 'bulk': how many values and letters a reading holds, each counted each time it is reached (what is shared counts as often as it is met; a slice's spare places count too). A statement '..UptoSaid' is the law's where the arguments, and the package variables that the reading takes, are together of bulk at most 1048576: NARROWER than '..Said'. Prove '..Said' where nothing that the law and all that it calls make is longer than what came in: it says more and counts as full. Else prove '..UptoSaid'. A law counts once. -/
mutual
def uptoBulk {H : Type} : DataW H → Nat
  | .lit (.string bytes) => bytes.length + 1
  | .lit _ => 1
  | .nil => 1
  | .ptr d => uptoBulk d + 1
  | .slice elems spare => uptoBulkAll elems + uptoBulkAll spare + 1
  | .agg parts => uptoBulkAll parts + 1
  | .iface _ d => uptoBulk d + 1
  | .map entries => uptoBulkEntries entries + 1
  | .held _ => 1
def uptoBulkAll {H : Type} : List (DataW H) → Nat
  | [] => 0
  | d :: r => uptoBulk d + uptoBulkAll r
def uptoBulkEntries {H : Type} : List (Lit × DataW H) → Nat
  | [] => 0
  | x :: r => uptoBulkEntry x + uptoBulkEntries r
def uptoBulkEntry {H : Type} : Lit × DataW H → Nat
  | (.string bytes, d) => bytes.length + uptoBulk d + 1
  | (_, d) => uptoBulk d + 1
 end
def uptoSmall : (H : Type) → List (DataW H) → Bool := fun _ ds => decide (uptoBulkAll ds ≤ 1048576)
def OpenSpec.upto (s : _root_.Go.ChangeSpec) : _root_.Go.OpenSpec := { _root_.Go.OpenSpec.ofChange s with cond := some uptoSmall }

/-- 'lifelodgekeep.LeapAdds', WHERE WHAT IT READS IS OF BULK AT MOST 1048576: true; the input reads as it did. -/
def leapAddsUptoRow : OpenClaim := { program := "ytgdijlpkbbfedaa", sum := "53ba46f6a0cee796bc431093e3d4e482481e1f6b59c5373f7556f5f0d3a81523", func := "lifelodge/lifelodgekeep.LeapAdds", spec := "leapAdds", unfollowed := true, recurses := true, plainKeys := false, apart := false, narrowed := true }
def LeapAddsUptoSaid : Prop := leapAddsUptoRow.holds Try.pinned (OpenSpec.upto leapAddsSpec)

/-- 'lifelodgekeep.LeapStill', WHERE WHAT IT READS IS OF BULK AT MOST 1048576: true; the input reads as it did. -/
def leapStillUptoRow : OpenClaim := { program := "ytgdijlpkbbfedaa", sum := "53ba46f6a0cee796bc431093e3d4e482481e1f6b59c5373f7556f5f0d3a81523", func := "lifelodge/lifelodgekeep.LeapStill", spec := "leapStill", unfollowed := true, recurses := true, plainKeys := false, apart := false, narrowed := true }
def LeapStillUptoSaid : Prop := leapStillUptoRow.holds Try.pinned (OpenSpec.upto leapStillSpec)

/-- 'lifelodgekeep.LeapGlides', WHERE WHAT IT READS IS OF BULK AT MOST 1048576: true; the input reads as it did. -/
def leapGlidesUptoRow : OpenClaim := { program := "ytgdijlpkbbfedaa", sum := "53ba46f6a0cee796bc431093e3d4e482481e1f6b59c5373f7556f5f0d3a81523", func := "lifelodge/lifelodgekeep.LeapGlides", spec := "leapGlides", unfollowed := true, recurses := true, plainKeys := false, apart := false, narrowed := true }
def LeapGlidesUptoSaid : Prop := leapGlidesUptoRow.holds Try.pinned (OpenSpec.upto leapGlidesSpec)

/-- 'lifelodgekeep.LeapQuota', WHERE WHAT IT READS IS OF BULK AT MOST 1048576: true; the input reads as it did. -/
def leapQuotaUptoRow : OpenClaim := { program := "ytgdijlpkbbfedaa", sum := "53ba46f6a0cee796bc431093e3d4e482481e1f6b59c5373f7556f5f0d3a81523", func := "lifelodge/lifelodgekeep.LeapQuota", spec := "leapQuota", unfollowed := true, recurses := true, plainKeys := false, apart := false, narrowed := true }
def LeapQuotaUptoSaid : Prop := leapQuotaUptoRow.holds Try.pinned (OpenSpec.upto leapQuotaSpec)

/-- 'lifelodgekeep.LeapMoves', WHERE WHAT IT READS IS OF BULK AT MOST 1048576: true; the input reads as it did. -/
def leapMovesUptoRow : OpenClaim := { program := "ytgdijlpkbbfedaa", sum := "53ba46f6a0cee796bc431093e3d4e482481e1f6b59c5373f7556f5f0d3a81523", func := "lifelodge/lifelodgekeep.LeapMoves", spec := "leapMoves", unfollowed := true, recurses := true, plainKeys := false, apart := false, narrowed := true }
def LeapMovesUptoSaid : Prop := leapMovesUptoRow.holds Try.pinned (OpenSpec.upto leapMovesSpec)

end Rows
end Go.Proofs.Ytgdijlpkbbfedaa
