/- slices.Compact at []api.Cell. -/
import Derived.Test.YtlcjadgaommfmaaDoorRows
import Derived.Test.YtlcjadgaommfmaaDoorRowC
import Derived.Test.YtlcjadgaommfmaaDoorCompactP
import Derived.Test.YtlcjadgaommfmaaDoorFresh
import Derived.BigQuiet
import Derived.Deep.QuietTactic
import Derived.Laws.StructEq
namespace Go.Proofs.YtlcjadgaommfmaaDoor
open Go.RowKit

def zeros (k : Nat) : List (Int × Int) := List.replicate k (0, 0)

/-- The cells of a row from place i on are set to zero. -/
theorem RowC.zeros {w : World} {t b off n : Nat} {F : Nat → Int × Int} (h : RowC w t b off n F) : ∀ (k i : Nat), i + k ≤ n →
    RowC (w.setCells b (off + i * 2) (flat (zeros k))) t b off n (fun j => if i ≤ j ∧ j < i + k then (0, 0) else F j) := by
  intro k
  induction k generalizing w F with
  | zero =>
    intro i _
    exact h.congr fun j _ => by rw [if_neg (by omega)]
  | succ k ih =>
    intro i hi
    have h1 := ih (h.set (i := i) (by omega) 0 0) (i + 1) (by omega)
    have e : w.setCells b (off + i * 2) (flat (YtlcjadgaommfmaaDoor.zeros (k + 1))) = ((w.setCell ⟨b, off + i * 2, none⟩ (.int .i64 0)).setCell ⟨b, off + i * 2 + 1, none⟩ (.int .i64 0)).setCells b (off + (i + 1) * 2) (flat (YtlcjadgaommfmaaDoor.zeros k)) := by
      show w.setCells b (off + i * 2) (.int .i64 0 :: .int .i64 0 :: flat (YtlcjadgaommfmaaDoor.zeros k)) = _
      rw [World.setCells, World.setCells]
      rw [show off + (i + 1) * 2 = off + i * 2 + 1 + 1 by omega]
    rw [e]
    refine h1.congr fun j hj => ?_
    by_cases e1 : i + 1 ≤ j ∧ j < i + 1 + k
    · rw [if_pos e1, if_pos (by omega)]
    · rw [if_neg e1]
      by_cases e2 : j = i
      · rw [if_pos e2, if_pos (by omega)]
      · rw [if_neg e2, if_neg (by omega)]

theorem zeroCells_flat (k : Nat) : (Builtin.zeroCells #[.int .i64 0, .int .i64 0] k).toList = flat (zeros k) := by
  have h : ∀ k, (List.range (k * 2)).map (fun i => (#[Value.int .i64 0, Value.int .i64 0] : Array Value)[i % 2]!) = flat (zeros k) := by
    intro k
    induction k with
    | zero => rfl
    | succ k ih =>
      rw [show (k + 1) * 2 = k * 2 + 1 + 1 by omega, List.range_succ, List.range_succ]
      simp only [List.map_append, ih, List.map_cons, List.map_nil, zeros, List.replicate_succ']
      rw [flat_append]
      rw [show (k * 2) % 2 = 0 by omega, show (k * 2 + 1) % 2 = 1 by omega]
      simp [flat]
  have := h k
  unfold Builtin.zeroCells
  simpa using this

/-- clear of the cells from i on. -/
theorem run_clear_cells (w : World) (ty : TypeId) {b off n : Nat} {F : Nat → Int × Int} (h : RowC w 50 b off n F) {i k c : Nat} (hi : i + k ≤ n) (hk : 0 < k) :
    (Builtin.clear_ #[22] ty #[.slice (some ⟨b, off + i * 2, none⟩) k c]).run Tryd.prog w = .ok (.tuple #[]) (w.setCells b (off + i * 2) (flat (zeros k))) := by
  obtain ⟨cs, h1, h2, h3⟩ := h
  have hz : (zeroValue 50).run Tryd.prog w = .ok (.agg #[.int .i64 0, .int .i64 0]) w := Tryd.zeroValue50 w
  have hl : (flat (zeros k)).length = k * 2 := by rw [flat_length]; simp [zeros]
  have hst := run_storeCells_cells (P := Tryd.prog) b (off + i * 2) (flat (zeros k)) 0 w
    (fun j hj => by rw [Nat.add_zero, h1.cell, Array.getElem?_eq_getElem (by omega)]; rfl) (fun j hj => h1.frozen _) flat_one
  simp only [Nat.add_zero] at hst
  have hk0 : k ≠ 0 := by omega
  cases k with
  | zero => omega
  | succ k =>
    simp only [Builtin.clear_]
    simp [run_underlying Tryd.underlying22, hz, Value.cells, zeroCells_flat, hst]
end Go.Proofs.YtlcjadgaommfmaaDoor
