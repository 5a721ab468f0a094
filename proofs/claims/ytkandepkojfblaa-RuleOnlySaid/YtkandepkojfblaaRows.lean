/-
  No cell of these rows narrows 'for every input' (looked for: loops, veiled, ifaces, maps, wideKeys, modest, calm, conditions, laid).
  DERIVED. THE GIVEN ROWS OF THIS SEAT. 3 by the template 'for every input the law returns true; each argument reads behind the call as it read before'; 0 by the template 'total and deterministic' (their statements: YtkandepkojfblaaTotals.lean).
  GIVEN WITH THE SEED: the statements are not yours to turn. If you find one false, say at which input.
  Laid BY PROGRAM, IN A SANDBOX (cutbox-rows.mjs): the forced cells as the released guide's own fill.sh prints them over the translation d719d76004169ac9… (all of the seat's roots in one cut). By AI agents, Wed Nov 11 2026. No macro, syntax, notation, axiom, sorry.
-/
import Derived.Test.YtkandepkojfblaaChecked
import GoSem.Claim
import GoSem.ClaimJoined
import GoSem.ClaimMapViews
import Derived.JoinedTies
import Derived.KernelRfl
namespace Go.Proofs.Ytkandepkojfblaa
/- THE CELL 'sum', in the pinned program and in every row, IS THE sha256 OF THE DUMP (.gsa) THAT YtkandepkojfblaaProg.lean LOADS. Nothing in Lean hashes anything: it is a label: what it is worth is what the hold of that sum in a sandbox is worth. -/
noncomputable def Try.pinned : Pinned := { name := "ytkandepkojfblaa", sum := "d719d76004169ac98d50a127281503bd34e8bf9c2efbc091039e3b9026d130d7", checked := Try.checked }
namespace Rows
def none {H : Type} : Left H := { results := [], args := [] }

/-- 'lifelodgekeep.RuleCuts': WHATEVER THE INPUT: true; the input reads as it did. -/
def ruleCutsSpec : ChangeSpec := { name := "ruleCuts", fn := fun _ => fun
  | [d1, d2, d3, d4] => { results := [.lit (.bool true)], args := [d1, d2, d3, d4] }
  | _ => none }
def ruleCutsRow : OpenClaim := { program := "ytkandepkojfblaa", sum := "d719d76004169ac98d50a127281503bd34e8bf9c2efbc091039e3b9026d130d7", func := "lifelodge/lifelodgekeep.RuleCuts", spec := "ruleCuts", unfollowed := true, recurses := true, plainKeys := false, apart := false }
def RuleCutsSaid : Prop := ruleCutsRow.holds Try.pinned (OpenSpec.ofChange ruleCutsSpec)

/-- ITS FALSE NEIGHBOUR: 'it returns false'. Refute it at one input. -/
def ruleCutsWrong : ChangeSpec := { name := "ruleCuts", fn := fun _ => fun
  | [d1, d2, d3, d4] => { results := [.lit (.bool false)], args := [d1, d2, d3, d4] }
  | _ => none }
def RuleCutsWrongFalsely : Prop := ruleCutsRow.holds Try.pinned (OpenSpec.ofChange ruleCutsWrong)

/-- 'lifelodgekeep.RuleBack': WHATEVER THE INPUT: true; the input reads as it did. -/
def ruleBackSpec : ChangeSpec := { name := "ruleBack", fn := fun _ => fun
  | [d] => { results := [.lit (.bool true)], args := [d] }
  | _ => none }
def ruleBackRow : OpenClaim := { program := "ytkandepkojfblaa", sum := "d719d76004169ac98d50a127281503bd34e8bf9c2efbc091039e3b9026d130d7", func := "lifelodge/lifelodgekeep.RuleBack", spec := "ruleBack", unfollowed := true, recurses := true, plainKeys := false, apart := false }
def RuleBackSaid : Prop := ruleBackRow.holds Try.pinned (OpenSpec.ofChange ruleBackSpec)

/-- ITS FALSE NEIGHBOUR: 'it returns false'. Refute it at one input. -/
def ruleBackWrong : ChangeSpec := { name := "ruleBack", fn := fun _ => fun
  | [d] => { results := [.lit (.bool false)], args := [d] }
  | _ => none }
def RuleBackWrongFalsely : Prop := ruleBackRow.holds Try.pinned (OpenSpec.ofChange ruleBackWrong)

/-- 'lifelodgekeep.RuleOnly': WHATEVER THE INPUT: true; the input reads as it did. -/
def ruleOnlySpec : ChangeSpec := { name := "ruleOnly", fn := fun _ => fun
  | [d] => { results := [.lit (.bool true)], args := [d] }
  | _ => none }
def ruleOnlyRow : OpenClaim := { program := "ytkandepkojfblaa", sum := "d719d76004169ac98d50a127281503bd34e8bf9c2efbc091039e3b9026d130d7", func := "lifelodge/lifelodgekeep.RuleOnly", spec := "ruleOnly", unfollowed := true, recurses := true, plainKeys := false, apart := false }
def RuleOnlySaid : Prop := ruleOnlyRow.holds Try.pinned (OpenSpec.ofChange ruleOnlySpec)

/-- ITS FALSE NEIGHBOUR: 'it returns false'. Refute it at one input. -/
def ruleOnlyWrong : ChangeSpec := { name := "ruleOnly", fn := fun _ => fun
  | [d] => { results := [.lit (.bool false)], args := [d] }
  | _ => none }
def RuleOnlyWrongFalsely : Prop := ruleOnlyRow.holds Try.pinned (OpenSpec.ofChange ruleOnlyWrong)

/- THE SECOND FORM. 'bulk': how many values and letters a reading holds, each counted each time it is reached (what is shared counts as often as it is met; a slice's spare places count too). A statement '..UptoSaid' is the law's where the arguments, and the package variables that the reading takes, are together of bulk at most 1048576: NARROWER than '..Said'. Prove '..Said' where nothing that the law and all that it calls make is longer than what came in: it says more and counts as full. Else prove '..UptoSaid'. A law counts once. -/
mutual
def uptoBulk {H : Type} : DataW H → Nat
  | .lit (.string bytes) => bytes.length + 1
  | .lit _ => 1
  | .nil => 1
  | .ptr d => uptoBulk d + 1
  | .slice elems spare => uptoBulkAll elems + uptoBulkAll spare + 1
  | .agg parts => uptoBulkAll parts + 1
  | .iface _ d => uptoBulk d + 1
  | .map entries => uptoBulkEntries entries + 1
  | .held _ => 1
def uptoBulkAll {H : Type} : List (DataW H) → Nat
  | [] => 0
  | d :: r => uptoBulk d + uptoBulkAll r
def uptoBulkEntries {H : Type} : List (Lit × DataW H) → Nat
  | [] => 0
  | x :: r => uptoBulkEntry x + uptoBulkEntries r
def uptoBulkEntry {H : Type} : Lit × DataW H → Nat
  | (.string bytes, d) => bytes.length + uptoBulk d + 1
  | (_, d) => uptoBulk d + 1
 end
def uptoSmall : (H : Type) → List (DataW H) → Bool := fun _ ds => decide (uptoBulkAll ds ≤ 1048576)
def OpenSpec.upto (s : _root_.Go.ChangeSpec) : _root_.Go.OpenSpec := { _root_.Go.OpenSpec.ofChange s with cond := some uptoSmall }

/-- 'lifelodgekeep.RuleCuts', WHERE WHAT IT READS IS OF BULK AT MOST 1048576: true; the input reads as it did. -/
def ruleCutsUptoRow : OpenClaim := { program := "ytkandepkojfblaa", sum := "d719d76004169ac98d50a127281503bd34e8bf9c2efbc091039e3b9026d130d7", func := "lifelodge/lifelodgekeep.RuleCuts", spec := "ruleCuts", unfollowed := true, recurses := true, plainKeys := false, apart := false, narrowed := true }
def RuleCutsUptoSaid : Prop := ruleCutsUptoRow.holds Try.pinned (OpenSpec.upto ruleCutsSpec)

/-- 'lifelodgekeep.RuleBack', WHERE WHAT IT READS IS OF BULK AT MOST 1048576: true; the input reads as it did. -/
def ruleBackUptoRow : OpenClaim := { program := "ytkandepkojfblaa", sum := "d719d76004169ac98d50a127281503bd34e8bf9c2efbc091039e3b9026d130d7", func := "lifelodge/lifelodgekeep.RuleBack", spec := "ruleBack", unfollowed := true, recurses := true, plainKeys := false, apart := false, narrowed := true }
def RuleBackUptoSaid : Prop := ruleBackUptoRow.holds Try.pinned (OpenSpec.upto ruleBackSpec)

/-- 'lifelodgekeep.RuleOnly', WHERE WHAT IT READS IS OF BULK AT MOST 1048576: true; the input reads as it did. -/
def ruleOnlyUptoRow : OpenClaim := { program := "ytkandepkojfblaa", sum := "d719d76004169ac98d50a127281503bd34e8bf9c2efbc091039e3b9026d130d7", func := "lifelodge/lifelodgekeep.RuleOnly", spec := "ruleOnly", unfollowed := true, recurses := true, plainKeys := false, apart := false, narrowed := true }
def RuleOnlyUptoSaid : Prop := ruleOnlyUptoRow.holds Try.pinned (OpenSpec.upto ruleOnlySpec)

end Rows
end Go.Proofs.Ytkandepkojfblaa
