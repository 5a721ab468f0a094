/- A rule as an argument. -/
import Derived.Test.YtlcjadgaommfmaaDoorCells
namespace Go.Proofs.YtlcjadgaommfmaaDoor
open Go.RowKit Go.ChangeShapes Go.WideShapes

theorem Tryd.ruleS : ∃ f0 f1, Tryd.prog.underlying 24 = some (.struct #[f0, f1]) ∧ f0.offset = 0 ∧ f1.offset = 1 ∧ f0.type = 3 ∧ f1.type = 3 := by
  exact ⟨_, _, Tryd.underlying24, rfl, rfl, rfl, rfl⟩
theorem Tryd.cellsRule : Tryd.prog.cellsOf 24 = 2 := by kernel_rfl

set_option maxRecDepth 100000 in
/-- A rule as an argument. -/
theorem rule_of {H : Type} {enc : TypeId × Value → H} {W : World} {base : Nat} {v : Value} {d : DataW H} {p : List MemPlace}
    (hv : Value.okWide Tryd.prog W .any base 24 v) (h : DataW.Trod enc Tryd.prog W 0 (fun _ => true) true 24 v d p) :
    ∃ b l : Int, v = .agg #[.int .i64 b, .int .i64 l] ∧ (-9223372036854775808 ≤ b ∧ b ≤ 9223372036854775807) ∧ (-9223372036854775808 ≤ l ∧ l ≤ 9223372036854775807) := by
  obtain ⟨f0, f1, hu, o0, o1, t0, t1⟩ := Tryd.ruleS
  obtain ⟨cs, rfl, hsz⟩ := okWide_struct hu hv
  rw [Tryd.cellsRule] at hsz
  obtain ⟨fuel, hf⟩ := h
  obtain ⟨ys, n', _, hy, _, hyl, hfs⟩ := DataW.trod_struct hu hf
  have hcs : ∃ x y, cs = #[x, y] := by
    obtain ⟨l⟩ := cs
    match l, hsz with
    | [x, y], _ => exact ⟨x, y, rfl⟩
  obtain ⟨x, y, rfl⟩ := hcs
  match ys, hyl with
  | [y0, y1], _ =>
    have g0 := hfs 0 f0 rfl
    have g1 := hfs 1 f1 rfl
    rw [o0, t0, Tryd.cellsInt] at g0
    rw [o1, t1, Tryd.cellsInt] at g1
    simp only [Value.cells, List.drop_zero, List.take_succ_cons, List.take_zero, List.drop_succ_cons] at g0 g1
    obtain ⟨m0, e0, _, wf0⟩ := DataW.trod_int Tryd.underlying3 g0
    obtain ⟨m1, e1, _, wf1⟩ := DataW.trod_int Tryd.underlying3 g1
    simp at e0 e1
    subst e0 e1
    exact ⟨m0, m1, rfl, by simpa [Lit.wf, IntKind.min, IntKind.max, IntKind.signed, IntKind.bits] using wf0, by simpa [Lit.wf, IntKind.min, IntKind.max, IntKind.signed, IntKind.bits] using wf1⟩
end Go.Proofs.YtlcjadgaommfmaaDoor
