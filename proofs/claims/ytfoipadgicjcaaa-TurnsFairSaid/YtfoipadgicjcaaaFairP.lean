/-
  lifelodgekeep.TurnsFair: whatever the number and the list of passes: it returns true, and its arguments read behind the call as they read before. No condition of ours.
-/
import Derived.Test.YtfoipadgicjcaaaLaw
import Derived.Test.YtfoipadgicjcaaaFairW
namespace Go.Proofs.Ytfoipadgicjcaaa
open Go.ChangeShapes Go.WideShapes Go.ChangeAt Go.RowKit

theorem Try.own : ownKnob Try.prog.godebug = none := by kernel_rfl
theorem Try.laidOut : laidOutB Try.prog = true := by kernel_rfl

theorem Try.pass : ∃ f0 f1, Try.prog.underlying 31 = some (.struct #[f0, f1]) ∧ f0.offset = 0 ∧ f1.offset = 1 ∧ f0.type = 4 ∧ f1.type = 3 := by
  exact ⟨_, _, Try.underlying31, rfl, rfl, rfl, rfl⟩
theorem Try.cells4 : Try.prog.cellsOf 4 = 1 := by kernel_rfl
theorem Try.cells3 : Try.prog.cellsOf 3 = 1 := by kernel_rfl
theorem Try.cells31 : Try.prog.cellsOf 31 = 2 := by kernel_rfl

set_option maxRecDepth 100000 in
theorem passes_of {H : Type} {enc : TypeId × Value → H} {W : World} {base : Nat} {v : Value} {d : DataW H} {p : List MemPlace}
    (hv : Value.okWide Try.prog W .any base 22 v) (h : DataW.Trod enc Try.prog W 0 (fun _ => true) true 22 v d p) :
    ∃ (len : Nat) (f : Nat → Bool × Int), Passes W W.heap.size v len f ∧ ∀ i, -9223372036854775808 ≤ (f i).2 ∧ (f i).2 ≤ 9223372036854775807 := by
  obtain ⟨a0, len, cap, rfl⟩ := okWide_slice Try.underlying22 hv
  obtain ⟨fuel, hf⟩ := h
  obtain ⟨f0, f1, hu, o0, o1, t0, t1⟩ := Try.pass
  rcases open_two Try.underlying22 hu o0 o1 (by rw [t0]; exact Try.cells4) (by rw [t1]; exact Try.cells3) Try.cells31 hf with hcs | ⟨a, len', cap', hcs, hl, hm, hi⟩
  · simp [Value.cells] at hcs
    obtain ⟨rfl, rfl, rfl⟩ := hcs
    exact ⟨0, fun _ => (false, 0), ⟨_, _, rfl, by simp [maxLen], fun h => absurd h (Nat.lt_irrefl _)⟩, fun _ => ⟨by dsimp only; decide, by dsimp only; decide⟩⟩
  · simp [Value.cells] at hcs
    obtain ⟨rfl, rfl, rfl⟩ := hcs
    have key : ∀ i, ∃ x : Bool × Int, (i < len → W.cell? (a.add (i * 2)) = some (.bool x.1) ∧ W.cell? ((a.add (i * 2)).add 1) = some (.int .i64 x.2)) ∧ -9223372036854775808 ≤ x.2 ∧ x.2 ≤ 9223372036854775807 := by
      intro i
      by_cases hil : i < len
      · obtain ⟨v0, v1, n, y0, y1, c0, c1, g0, g1⟩ := hi i hil
        rw [t0] at g0
        rw [t1] at g1
        obtain ⟨b, e0, _⟩ := DataW.trod_bool Try.underlying4 g0
        obtain ⟨m, e1, _, wf⟩ := DataW.trod_int Try.underlying3 g1
        simp at e0 e1
        subst e0 e1
        have hb : -9223372036854775808 ≤ m ∧ m ≤ 9223372036854775807 := by simpa [Lit.wf, IntKind.min, IntKind.max, IntKind.signed, IntKind.bits] using wf
        exact ⟨(b, m), fun _ => ⟨c0, c1⟩, hb.1, hb.2⟩
      · exact ⟨(false, 0), fun h => absurd h hil, by decide, by decide⟩
    obtain ⟨f, hfx⟩ := Classical.axiomOfChoice key
    refine ⟨len, f, ⟨_, _, rfl, by omega, fun hn => ?_⟩, fun i => (hfx i).2⟩
    obtain ⟨b, off, spot⟩ := a
    have c0 := ((hfx 0).1 hn).1
    have hspot : spot = none := by simpa [Addr.add] using World.cell?_spot c0
    subst hspot
    refine ⟨b, off, rfl, by simpa [Addr.add] using World.block_lt_of_cell? W _ c0, fun i hil => ?_⟩
    obtain ⟨k0, k1⟩ := (hfx i).1 hil
    rw [Addr.add_lit] at k0 k1
    rw [Addr.add_lit] at k1
    exact ⟨k0, k1⟩

set_option maxRecDepth 100000 in
theorem turnsFair_lifted (os : Os) (started : os.Started) (H : Type) (enc : TypeId × Value → H) :
    ReturnsInHanded {} Try.checked os 3 .any (Rows.turnsFairSpec.pre6 enc Try.prog Try.f3 Rows.turnsFairRow.domain false) (Rows.turnsFairSpec.post enc Try.prog Try.f3 false true false false) := by
  refine returnsInHanded_of_change (C := Try.checked) Try.own started (by kernel_rfl) Try.func3
    (ChangeSpec.witness6 (enc := enc) (C := Try.checked) false ⟨#[], #[.int .i64 0, .slice none 0 0], []⟩ 8 (by kernel_rfl) (by kernel_rfl) (by kernel_rfl) (by kernel_rfl)) ?_
  intro W base args ds gs before hval0 hW hcnd _
  have hval : ∀ (j : Nat) t v, Try.f3.params[j]? = some t → args[j]? = some v → Value.okWide Try.prog W .any base t v := hval0
  have hW' := hW
  obtain ⟨p, q, hA0, hV, rfl, hfz, hnd⟩ := hW
  have hA : DataW.TrodAll enc Try.prog W 0 (fun _ => true) true Try.f3.params.toList args.toList ds p := hA0
  rw [Try.params3] at hA hval
  obtain ⟨v0, v1, d0, d1, p0, p1, rfl, rfl, rfl, h0, h1⟩ := trodAll_two hA
  obtain ⟨rfl, rfl⟩ := trodVars_none hV
  obtain ⟨n0, rfl, rfl, rfl, w0⟩ := open_int Try.underlying3 (hval 0 3 v0 rfl rfl) h0
  have hb0 : -9223372036854775808 ≤ n0 ∧ n0 ≤ 9223372036854775807 := by simpa [Lit.wf, IntKind.min, IntKind.max, IntKind.signed, IntKind.bits] using w0
  obtain ⟨len, f, hP, hf⟩ := passes_of (hval 1 22 v1 rfl rfl) h1
  refine (fair_walk n0 hb0.1 hb0.2 v1 len f W hP hf).mono fun e W' ⟨he, hb⟩ => ?_
  subst he
  exact ⟨_, rfl, law_post Try.laidOut (by rw [Try.params3]; intro t ht; simp at ht; rcases ht with rfl | rfl <;> exact ⟨by kernel_rfl, of_decide_eq_true (by kernel_rfl)⟩) rfl hW' hb (tb := 4) rfl Try.underlying4 rfl rfl rfl⟩

theorem turnsFair_holds : Rows.TurnsFairSaid :=
  OpenClaim.holds_of_wide 3 Try.f3 rfl rfl rfl rfl rfl rfl rfl ⟨rfl, rfl, rfl, rfl, rfl⟩ rfl rfl rfl rfl rfl (by kernel_rfl) Try.func3 (by kernel_rfl)
    (of_decide_eq_true (by kernel_rfl)) (by unfold Func.isWrapper; rw [if_neg (of_decide_eq_false (by kernel_rfl))]; exact ⟨rfl, rfl⟩)
    (fun os started H enc _ => turnsFair_lifted os started H enc)
#print axioms turnsFair_holds
end Go.Proofs.Ytfoipadgicjcaaa
