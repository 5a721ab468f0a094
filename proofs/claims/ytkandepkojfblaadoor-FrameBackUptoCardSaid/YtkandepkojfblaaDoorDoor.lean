/- What the cards over the tables of unicode/utf8 use: a witness's world; bulk; string arguments. -/
import Derived.Test.YtkandepkojfblaaDoorCards
import Derived.Test.YtkandepkojfblaaDoorTie
import Derived.Test.YtkandepkojfblaaDoorLaw
import Derived.Test.YtkandepkojfblaaDoorFrames
import Derived.WalkKit
import Derived.ProofKit
import Derived.OpenShut
import Derived.ChangeMaps5
import Derived.SliceStrings
import Derived.Deep.DeepHandedRow
import Derived.Deep.DeepWitnessRowRef
import Derived.Lib.LaidTab
namespace Go.Proofs.YtkandepkojfblaaDoor
open Go.ChangeShapes Go.WideShapes Go.ChangeAt Go.RowKit Go.ChangeMaps

theorem ownD : ownKnob Tryd.prog.godebug = none := by kernel_rfl
theorem laidOutD : laidOutB Tryd.prog = true := by kernel_rfl
theorem one_bulk {H : Type} (d : DataW H) : 1 ≤ Rows.uptoBulk d := by
  cases d with
  | lit l => cases l <;> simp [Rows.uptoBulk]
  | nil => simp [Rows.uptoBulk]
  | ptr d => simp [Rows.uptoBulk]
  | slice elems spare => simp [Rows.uptoBulk]
  | agg parts => simp [Rows.uptoBulk]
  | iface t d => simp [Rows.uptoBulk]
  | map entries => simp [Rows.uptoBulk]
  | held h => simp [Rows.uptoBulk]

/-- A WORLD FOR THE WITNESS: the settled one, the two tables holding what the row lists. -/
def flat0 : DataW Unit → List Value
  | .lit (.int k z) => [.int k z]
  | .agg l => l.flatMap fun
    | .lit (.int k z) => [.int k z]
    | _ => []
  | _ => []
def flat1 : DataW Unit → Array Value
  | .agg l => (l.flatMap flat0).toArray
  | _ => #[]
def putCells (cs : Array Value) : Obj → Obj
  | .cells _ t frozen => .cells cs t frozen
  | o => o
noncomputable def laidWorld (os : Os) : World :=
  { World.holding Tryd.prog os ⟨#[], #[], []⟩ with heap := ((World.holding Tryd.prog os ⟨#[], #[], []⟩).heap.modify 1 (putCells (flat1 Rows.laid_unicode_utf8_first))).modify 2 (putCells (flat1 Rows.laid_unicode_utf8_acceptRanges)) }
end Go.Proofs.YtkandepkojfblaaDoor
