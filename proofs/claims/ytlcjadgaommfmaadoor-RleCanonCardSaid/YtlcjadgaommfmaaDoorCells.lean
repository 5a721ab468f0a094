/- A list of cells as an argument: what a row's precondition says of it. -/
import Derived.Test.YtlcjadgaommfmaaDoorLaw
import Derived.Test.YtlcjadgaommfmaaDoorRowC
import Derived.SizedLaws
namespace Go.Proofs.YtlcjadgaommfmaaDoor
open Go.RowKit Go.ChangeShapes Go.WideShapes

theorem Tryd.ownC : ownKnob Tryd.prog.godebug = none := by kernel_rfl
theorem Tryd.laidOutC : laidOutB Tryd.prog = true := by kernel_rfl
theorem Tryd.cellS : ∃ f0 f1, Tryd.prog.underlying 50 = some (.struct #[f0, f1]) ∧ f0.offset = 0 ∧ f1.offset = 1 ∧ f0.type = 3 ∧ f1.type = 3 := by
  exact ⟨_, _, Tryd.underlying50, rfl, rfl, rfl, rfl⟩
theorem Tryd.cellsInt : Tryd.prog.cellsOf 3 = 1 := by kernel_rfl
theorem Tryd.cellsCell : Tryd.prog.cellsOf 50 = 2 := by kernel_rfl
theorem Tryd.bytesCell : Tryd.prog.bytesOf 50 = 16 := by kernel_rfl

theorem slice_len {H : Type} {enc : TypeId × Value → H} {P : Program} {w : World} {base : Nat} {spare : Nat → Bool} {held : Bool} {t e : TypeId} {fuel : Nat} {a : Addr} {len cap : Nat} {x : DataW H × List MemPlace}
    (ht : P.underlying t = some (.slice e)) (h : DataW.trod enc P w base spare held fuel t [.slice (some a) len cap] = some x) : ∃ elems rest, x.1 = .slice elems rest ∧ elems.length = len := by
  rcases Go.Deep.open_slice ht h with h0 | ⟨a', len', cap', m, n, D, Pl, hcs, hb, hl, hm, hmm, hx, hi⟩
  · simp at h0
  · injection hcs with hcs
    injection hcs with _ e2 _
    subst e2
    subst hx
    exact ⟨_, _, rfl, by simp⟩

/-- A cell whose numbers are ints of 64 bits. -/
def inC (c : Int × Int) : Prop := (-9223372036854775808 ≤ c.1 ∧ c.1 ≤ 9223372036854775807) ∧ (-9223372036854775808 ≤ c.2 ∧ c.2 ≤ 9223372036854775807)

theorem flat_of_cells (W : World) (b off : Nat) (l : List (Int × Int))
    (h : ∀ i, i < l.length → W.cell? ⟨b, off + i * 2, none⟩ = some (.int .i64 l[i]!.1) ∧ W.cell? ⟨b, off + i * 2 + 1, none⟩ = some (.int .i64 l[i]!.2)) :
    ∀ j u, (flat l)[j]? = some u → W.cell? ⟨b, off + j, none⟩ = some u := by
  intro j u hj
  have hjl : j < (flat l).length := by
    rcases Nat.lt_or_ge j (flat l).length with h | h
    · exact h
    · rw [List.getElem?_eq_none h] at hj; cases hj
  rw [flat_length] at hjl
  have hi : j / 2 < l.length := by omega
  have hg : l[j / 2]? = some l[j / 2]! := by rw [List.getElem!_eq_getElem?_getD, List.getElem?_eq_getElem hi]; simp
  obtain ⟨g1, g2⟩ := flat_get l (j / 2) _ hg
  obtain ⟨k1, k2⟩ := h (j / 2) hi
  rcases Nat.mod_two_eq_zero_or_one j with e | e
  · have e' : j = j / 2 * 2 := by omega
    rw [e'] at hj
    rw [hj] at g1
    rw [e']
    rw [g1]; exact k1
  · have e' : j = j / 2 * 2 + 1 := by omega
    rw [e'] at hj
    rw [hj] at g2
    rw [e']
    rw [g2]; exact k2

set_option maxRecDepth 100000 in
theorem cells_of {H : Type} {enc : TypeId × Value → H} {W : World} {base : Nat} {v : Value} {d : DataW H} {p : List MemPlace}
    (hv : Value.okWide Tryd.prog W .any base 22 v) (h : DataW.Trod enc Tryd.prog W 0 (fun _ => true) true 22 v d p) :
    ∃ (n : Nat) (l : List (Int × Int)), Rd W W.heap.size 2 v n (flat l) ∧ (∀ c ∈ l, inC c) ∧ (n = 0 ∨ ∃ elems rest, d = .slice elems rest ∧ elems.length = n) := by
  obtain ⟨a0, len, cap, rfl⟩ := okWide_slice Tryd.underlying22 hv
  obtain ⟨fuel, hf⟩ := h
  obtain ⟨f0, f1, hu, o0, o1, t0, t1⟩ := Tryd.cellS
  rcases open_two Tryd.underlying22 hu o0 o1 (by rw [t0]; exact Tryd.cellsInt) (by rw [t1]; exact Tryd.cellsInt) Tryd.cellsCell hf with hcs | ⟨a, len', cap', hcs, hl, hm, hi⟩
  · simp [Value.cells] at hcs
    obtain ⟨rfl, rfl, rfl⟩ := hcs
    exact ⟨0, [], ⟨rfl, _, _, rfl, Nat.le_refl _, Nat.zero_le _, fun h => absurd h (Nat.lt_irrefl _)⟩, by simp, .inl rfl⟩
  · simp [Value.cells] at hcs
    obtain ⟨rfl, rfl, rfl⟩ := hcs
    have hlen := slice_len Tryd.underlying22 (a := a) (len := len) (cap := cap) hf
    have key : ∀ i, ∃ x : Int × Int, (i < len → W.cell? (a.add (i * 2)) = some (.int .i64 x.1) ∧ W.cell? ((a.add (i * 2)).add 1) = some (.int .i64 x.2)) ∧ inC x := by
      intro i
      by_cases hil : i < len
      · obtain ⟨v0, v1, n, y0, y1, c0, c1, g0, g1⟩ := hi i hil
        rw [t0] at g0
        rw [t1] at g1
        obtain ⟨m0, e0, _, wf0⟩ := DataW.trod_int Tryd.underlying3 g0
        obtain ⟨m, e1, _, wf⟩ := DataW.trod_int Tryd.underlying3 g1
        simp at e0 e1
        subst e0 e1
        have hb0 : -9223372036854775808 ≤ m0 ∧ m0 ≤ 9223372036854775807 := by simpa [Lit.wf, IntKind.min, IntKind.max, IntKind.signed, IntKind.bits] using wf0
        have hb : -9223372036854775808 ≤ m ∧ m ≤ 9223372036854775807 := by simpa [Lit.wf, IntKind.min, IntKind.max, IntKind.signed, IntKind.bits] using wf
        exact ⟨(m0, m), fun _ => ⟨c0, c1⟩, hb0, hb⟩
      · exact ⟨(0, 0), fun h => absurd h hil, by unfold inC; decide⟩
    obtain ⟨f, hfx⟩ := Classical.axiomOfChoice key
    have hg : ∀ i, i < len → ((List.range len).map f)[i]! = f i := fun i hi => by simp [List.getElem!_eq_getElem?_getD, List.getElem?_map, List.getElem?_range hi]
    refine ⟨len, (List.range len).map f, ⟨by rw [flat_length]; simp, _, _, rfl, by omega, hm, fun hn => ?_⟩, ?_, .inr hlen⟩
    · obtain ⟨b, off, spot⟩ := a
      have c0 := ((hfx 0).1 hn).1
      have hspot : spot = none := by simpa [Addr.add] using World.cell?_spot c0
      subst hspot
      refine ⟨b, off, rfl, by simpa [Addr.add] using World.block_lt_of_cell? W _ c0, flat_of_cells W b off _ fun i hil => ?_⟩
      have hil' : i < len := by simpa using hil
      obtain ⟨k0, k1⟩ := (hfx i).1 hil'
      rw [Addr.add_lit] at k0 k1
      rw [Addr.add_lit] at k1
      rw [hg i hil']
      exact ⟨k0, k1⟩
    · intro c hc
      simp only [List.mem_map] at hc
      obtain ⟨i, _, rfl⟩ := hc
      exact (hfx i).2
end Go.Proofs.YtlcjadgaommfmaaDoor
