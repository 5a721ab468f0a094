/- What the cards of keys use: a witness's world, the table of math/bits read from a row's condition. -/
import Derived.Test.YtfoipadgicjcaaaDoorCards
import Derived.Test.YtfoipadgicjcaaaDoorTie
import Derived.Test.YtfoipadgicjcaaaDoorLaw
import Derived.Test.YtfoipadgicjcaaaDoorWants
import Derived.WalkKit
import Derived.ProofKit
import Derived.OpenShut
import Derived.ChangeMaps5
import Derived.LaidSub
import Derived.MakeChecks
import Derived.Deep.DeepHandedRow
import Derived.Deep.DeepWitnessRowRef
import Derived.Lib.LaidTab
namespace Go.Proofs.YtfoipadgicjcaaaDoor
open Go.ChangeShapes Go.WideShapes Go.ChangeAt Go.RowKit Go.ChangeMaps

theorem ownD : ownKnob Tryd.prog.godebug = none := by kernel_rfl
theorem laidOutD : laidOutB Tryd.prog = true := by kernel_rfl

def tab64 : List Int := [0, 1, 56, 2, 57, 49, 28, 3, 61, 58, 42, 50, 38, 29, 17, 4, 62, 47, 59, 36, 45, 43, 51, 22, 53, 39, 33, 30, 24, 18, 12, 5, 63, 55, 48, 27, 60, 41, 37, 16, 46, 35, 44, 21, 52, 32, 23, 11, 54, 26, 40, 15, 34, 20, 31, 10, 25, 14, 19, 9, 13, 8, 7, 6]
theorem tab64_data : (Rows.laid_math_bits_deBruijn64tab : DataW Unit) = Lib.tabData .u8 tab64 := by rfl
abbrev laidKeys : List (String × DataW Unit) := [("math/bits.deBruijn32tab", Rows.laid_math_bits_deBruijn32tab), ("math/bits.deBruijn64tab", Rows.laid_math_bits_deBruijn64tab), ("internal/strconv.uint64pow10", Rows.laid_internal_strconv_uint64pow10)]
theorem tab_of_laid {W : World} (h : laidMetH Tryd.prog laidKeys W) : W.cell? ⟨5, 15, none⟩ = some (.int .u8 4) := by
  rw [Go.MakeChecks.laidMetH_plain Tryd.prog laidKeys W (by kernel_rfl)] at h
  have h2 := h.filter (fun x => x.1 == "math/bits.deBruijn64tab")
  have e : laidKeys.filter (fun x => x.1 == "math/bits.deBruijn64tab") = [("math/bits.deBruijn64tab", Rows.laid_math_bits_deBruijn64tab)] := by rfl
  rw [e, tab64_data] at h2
  have ht := Lib.tabIs_of_head (P := Tryd.prog) (g := 5) (show Tryd.prog.globalNamed "math/bits.deBruijn64tab" = some 5 by kernel_rfl) (show (Tryd.prog.globals[5]?).map (·.type) = some 99 by kernel_rfl) Tryd.underlying99 Tryd.underlying5 (by kernel_rfl) (by kernel_rfl) h2
  exact ht.cell (show Tryd.prog.globalNamed "math/bits.deBruijn64tab" = some 5 by kernel_rfl) 15 (by decide)

/-- A WORLD FOR THE WITNESS: the settled one, the three tables holding what the row lists. -/
def flat0 : DataW Unit → List Value
  | .lit (.int k z) => [.int k z]
  | _ => []
def flat1 : DataW Unit → Array Value
  | .agg l => (l.flatMap flat0).toArray
  | _ => #[]
def putCells (cs : Array Value) : Obj → Obj
  | .cells _ t frozen => .cells cs t frozen
  | o => o
noncomputable def keysWorld (os : Os) : World :=
  { World.holding Tryd.prog os ⟨#[], #[], []⟩ with heap := (((World.holding Tryd.prog os ⟨#[], #[], []⟩).heap.modify 4 (putCells (flat1 Rows.laid_math_bits_deBruijn32tab))).modify 5 (putCells (flat1 Rows.laid_math_bits_deBruijn64tab))).modify 0 (putCells (flat1 Rows.laid_internal_strconv_uint64pow10)) }
end Go.Proofs.YtfoipadgicjcaaaDoor
