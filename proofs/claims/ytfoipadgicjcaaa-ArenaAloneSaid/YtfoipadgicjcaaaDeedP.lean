/- Slices of deeds and quotas, opened. -/
import Derived.Test.YtfoipadgicjcaaaLaw
import Derived.Test.YtfoipadgicjcaaaRoomW
import Derived.Laws.IdiomArrays
namespace Go.Proofs.Ytfoipadgicjcaaa
open Go.ChangeShapes Go.WideShapes Go.ChangeAt Go.RowKit

theorem Try.own : ownKnob Try.prog.godebug = none := by kernel_rfl
theorem Try.laidOut : laidOutB Try.prog = true := by kernel_rfl
theorem Try.deed : ∃ f0 f1 f2, Try.prog.underlying 44 = some (.struct #[f0, f1, f2]) ∧ f0.offset = 0 ∧ f1.offset = 1 ∧ f2.offset = 2 ∧ f0.type = 3 ∧ f1.type = 3 ∧ f2.type = 37 := by
  exact ⟨_, _, _, Try.underlying44, rfl, rfl, rfl, rfl, rfl, rfl⟩
theorem Try.cellsI : Try.prog.cellsOf 3 = 1 := by kernel_rfl
theorem Try.cellsQ : Try.prog.cellsOf 37 = 4 := by kernel_rfl
theorem Try.cellsD : Try.prog.cellsOf 44 = 6 := by kernel_rfl

theorem int_r {m : Int} (h : (Lit.int .i64 m).wf = true) : i64r m := by
  have : -9223372036854775808 ≤ m ∧ m ≤ 9223372036854775807 := by simpa [Lit.wf, IntKind.min, IntKind.max, IntKind.signed, IntKind.bits] using h
  exact this
theorem four_of {H : Type} {enc : TypeId × Value → H} {W : World} {spare : Nat → Bool} {held : Bool} {fuel : Nat} {c0 c1 c2 c3 : Value} {x : DataW H × List MemPlace}
    (h : DataW.trod enc Try.prog W 0 spare held fuel 37 [c0, c1, c2, c3] = some x) :
    ∃ q0 q1 q2 q3, c0 = .int .i64 q0 ∧ c1 = .int .i64 q1 ∧ c2 = .int .i64 q2 ∧ c3 = .int .i64 q3 ∧ i64r q0 ∧ i64r q1 ∧ i64r q2 ∧ i64r q3 := by
  obtain ⟨y0, y1, y2, y3, m, hx, hy0, hy1, hy2, hy3⟩ := trod_array4 Try.underlying37 Try.cellsI h
  obtain ⟨x0, e0, _, w0⟩ := DataW.trod_int Try.underlying3 hy0
  obtain ⟨x1, e1, _, w1⟩ := DataW.trod_int Try.underlying3 hy1
  obtain ⟨x2, e2, _, w2⟩ := DataW.trod_int Try.underlying3 hy2
  obtain ⟨x3, e3, _, w3⟩ := DataW.trod_int Try.underlying3 hy3
  simp at e0 e1 e2 e3
  exact ⟨x0, x1, x2, x3, e0, e1, e2, e3, int_r w0, int_r w1, int_r w2, int_r w3⟩
set_option maxRecDepth 100000 in
/-- An array of four numbers that came in. -/
theorem open_four {H : Type} {enc : TypeId × Value → H} {W : World} {base : Nat} {v : Value} {d : DataW H} {p : List MemPlace}
    (hv : Value.okWide Try.prog W .any base 37 v) (h : DataW.Trod enc Try.prog W 0 (fun _ => true) true 37 v d p) :
    ∃ q0 q1 q2 q3, v = .agg #[.int .i64 q0, .int .i64 q1, .int .i64 q2, .int .i64 q3] ∧ i64r q0 ∧ i64r q1 ∧ i64r q2 ∧ i64r q3 := by
  obtain ⟨cs, rfl, hsz, _⟩ : ∃ cs, v = .agg cs ∧ cs.size = Try.prog.cellsOf 37 ∧ Row.okWide Try.prog W .any base 37 cs := by
    simpa [Value.okWide, Try.underlying37] using hv
  rw [Try.cellsQ] at hsz
  obtain ⟨l⟩ := cs
  match l, hsz with
  | [c0, c1, c2, c3], _ =>
    obtain ⟨fuel, hf⟩ := h
    obtain ⟨q0, q1, q2, q3, rfl, rfl, rfl, rfl, r0, r1, r2, r3⟩ := four_of (x := (d, p)) hf
    exact ⟨q0, q1, q2, q3, rfl, r0, r1, r2, r3⟩

set_option maxRecDepth 100000 in
theorem deeds_of {H : Type} {enc : TypeId × Value → H} {W : World} {base : Nat} {v : Value} {d : DataW H} {p : List MemPlace}
    (hv : Value.okWide Try.prog W .any base 36 v) (h : DataW.Trod enc Try.prog W 0 (fun _ => true) true 36 v d p) :
    ∃ (len : Nat) (f : Nat → DeedD), Deeds W W.heap.size v len f ∧ ∀ i, i < len → (f i).ok := by
  obtain ⟨a0, len, cap, rfl⟩ := okWide_slice Try.underlying36 hv
  obtain ⟨fuel, hf⟩ := h
  obtain ⟨f0, f1, f2, hu, o0, o1, o2, t0, t1, t2⟩ := Try.deed
  rcases Go.Deep.open_slice Try.underlying36 hf with ⟨hcs, _⟩ | ⟨a, len', cap', m, n, D, Pl, hcs, hb, hl, hm, hmm, hx, hi⟩
  · simp [Value.cells] at hcs
    obtain ⟨rfl, rfl, rfl⟩ := hcs
    exact ⟨0, fun _ => ⟨0, 0, 0, 0, 0, 0⟩, ⟨_, _, rfl, by simp [maxLen], fun h => absurd h (Nat.lt_irrefl _)⟩, fun i hi => absurd hi (Nat.not_lt_zero i)⟩
  · simp [Value.cells] at hcs
    obtain ⟨rfl, rfl, rfl⟩ := hcs
    have key : ∀ i, ∃ x : DeedD, i < len → (∀ k u, [Value.int .i64 x.kind, .int .i64 x.tenant, .int .i64 x.a0, .int .i64 x.a1, .int .i64 x.a2, .int .i64 x.a3][k]? = some u → W.cell? ((a.add (i * 6)).add k) = some u) ∧ x.ok := by
      intro i
      by_cases hil : i < len
      · obtain ⟨cs', hc, ht'⟩ := hi i (by rw [hmm]; split <;> omega)
        rw [Try.cellsD] at hc
        obtain ⟨_, hlen, hat⟩ := World.cells?_some hc
        match cs', hlen with
        | [v0, v1, v2, v3, v4, v5], _ =>
          obtain ⟨ys, n', _, hy, _, hyl, hf⟩ := DataW.trod_struct hu ht'
          match ys, hyl with
          | [y0, y1, y2], _ =>
            have g0 := hf 0 f0 rfl
            have g1 := hf 1 f1 rfl
            have g2 := hf 2 f2 rfl
            rw [o0, t0, Try.cellsI] at g0
            rw [o1, t1, Try.cellsI] at g1
            rw [o2, t2, Try.cellsQ] at g2
            obtain ⟨m0, e0, _, w0⟩ := DataW.trod_int Try.underlying3 g0
            obtain ⟨m1, e1, _, w1⟩ := DataW.trod_int Try.underlying3 g1
            simp at e0 e1
            obtain ⟨q0, q1, q2, q3, rfl, rfl, rfl, rfl, r0, r1, r2, r3⟩ := four_of (x := y2) g2
            subst e0 e1
            refine ⟨⟨m0, m1, q0, q1, q2, q3⟩, fun _ => ⟨fun k u hk => ?_, ⟨int_r w0, int_r w1, r0, r1, r2, r3⟩⟩⟩
            have hk6 : k < 6 := (List.getElem?_eq_some_iff.1 hk).1
            exact (hat k hk6).trans hk
      · exact ⟨⟨0, 0, 0, 0, 0, 0⟩, fun h => absurd h hil⟩
    obtain ⟨f, hfx⟩ := Classical.axiomOfChoice key
    refine ⟨len, f, ⟨_, _, rfl, by omega, fun hn => ?_⟩, fun i hil => (hfx i hil).2⟩
    obtain ⟨b, off, spot⟩ := a
    have c0 := (hfx 0 hn).1 0 _ rfl
    have hspot : spot = none := by simpa [Addr.add] using World.cell?_spot c0
    subst hspot
    refine ⟨b, off, rfl, by simpa [Addr.add] using World.block_lt_of_cell? W _ c0, fun i hil => ?_⟩
    have k := (hfx i hil).1
    have e : ∀ k, ((⟨b, off, none⟩ : Addr).add (i * 6)).add k = ⟨b, off + i * 6 + k, none⟩ := fun k => by rw [Addr.add_lit, Addr.add_lit]
    simp only [e] at k
    exact ⟨k 0 _ rfl, k 1 _ rfl, k 2 _ rfl, k 3 _ rfl, k 4 _ rfl, k 5 _ rfl⟩
end Go.Proofs.Ytfoipadgicjcaaa
