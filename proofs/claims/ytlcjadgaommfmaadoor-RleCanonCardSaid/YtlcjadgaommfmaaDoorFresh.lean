/- Cells as values: compared, laid anew. -/
import Derived.Test.YtlcjadgaommfmaaDoorRows
import Derived.Test.YtlcjadgaommfmaaDoorRowC
import Derived.BigQuiet
import Derived.Deep.QuietTactic
import Derived.Laws.StructEq
namespace Go.Proofs.YtlcjadgaommfmaaDoor
open Go.RowKit

def eqC (a b : Int × Int) : Bool := a.1 == b.1 && a.2 == b.2
theorem eqC_true (a b : Int × Int) : eqC a b = true ↔ a = b := by
  unfold eqC; simp [Prod.ext_iff]
theorem eqC_false (a b : Int × Int) : eqC a b = false ↔ a ≠ b := by
  have := eqC_true a b
  cases h : eqC a b <;> simp_all

theorem run_eqC (a b : Int × Int) (w : World) : (binOp .eql 50 (.agg #[.int .i64 a.1, .int .i64 a.2]) (.agg #[.int .i64 b.1, .int .i64 b.2])).run Tryd.prog w = .ok (.bool (eqC a b)) w := by
  have hS : Tryd.prog.underlying 50 = some (.struct (Tryd.prog.fieldsOf 50)) := by kernel_rfl
  have hp : Tryd.prog.stoodInHeld 50 = false := by kernel_rfl
  have u3 := Tryd.underlying3
  have z3 := Tryd.sizeOf3
  have a3 := Tryd.isAgg3
  rw [run_eql_struct, show (10000 : Nat) = 9999 + 1 from rfl, run_equalIn_agg w 9999 _ _ _ hS hp]
  simp only [Program.fieldsOf, Tryd.underlying50]
  go_simp
  unfold eqC
  by_cases h1 : a.1 = b.1 <;> by_cases h2 : a.2 = b.2 <;> simp [h1, h2]
theorem run_neC (a b : Int × Int) (w : World) : (binOp .neq 50 (.agg #[.int .i64 a.1, .int .i64 a.2]) (.agg #[.int .i64 b.1, .int .i64 b.2])).run Tryd.prog w = .ok (.bool (!eqC a b)) w := by
  have hS : Tryd.prog.underlying 50 = some (.struct (Tryd.prog.fieldsOf 50)) := by kernel_rfl
  have hp : Tryd.prog.stoodInHeld 50 = false := by kernel_rfl
  have u3 := Tryd.underlying3
  have z3 := Tryd.sizeOf3
  have a3 := Tryd.isAgg3
  rw [run_neq_struct, show (10000 : Nat) = 9999 + 1 from rfl, run_equalIn_agg w 9999 _ _ _ hS hp]
  simp only [Program.fieldsOf, Tryd.underlying50]
  go_simp
  unfold eqC
  by_cases h1 : a.1 = b.1 <;> by_cases h2 : a.2 = b.2 <;> simp [h1, h2]

theorem Tryd.info50 : (Tryd.prog.info? 50).map (fun i => (i.zero, i.size, i.bytes)) = some (some (.agg #[.int .i64 0, .int .i64 0]), 2, 16) := by kernel_rfl

theorem fresh_cells (w : World) (l : List (Int × Int)) (n : Nat) (hl : l.length = n) (hn : n ≤ maxLen) :
    Rd (w.alloc (.cells (flat l).toArray 50)) (w.heap.size + 1) 2 (.slice (some ⟨w.heap.size, 0, none⟩) n n) n (flat l) := by
  have := Rd.fresh w 50 (flat l).toArray 2 n (by simp [flat_length, hl]) hn
  simpa using this
end Go.Proofs.YtlcjadgaommfmaaDoor
