/- A list of wants as an argument. -/
import Derived.Test.YtfoipadgicjcaaaDoorMinted
import Derived.Test.YtfoipadgicjcaaaDoorLaw
import Derived.OpenShut
import Derived.SliceStrings
namespace Go.Proofs.YtfoipadgicjcaaaDoor
open Go.ChangeShapes Go.WideShapes Go.ChangeAt Go.RowKit Go.ChangeMaps

theorem list_of {α : Type} (p : Nat → α → Prop) : ∀ n, (∀ i, i < n → ∃ x, p i x) → ∃ L : List α, L.length = n ∧ ∀ i x, L[i]? = some x → p i x
  | 0, _ => ⟨[], rfl, fun i x h => by simp at h⟩
  | n + 1, h => by
    obtain ⟨L, hl, hL⟩ := list_of p n fun i hi => h i (by omega)
    obtain ⟨x, hx⟩ := h n (by omega)
    refine ⟨L ++ [x], by simp [hl], fun i y hy => ?_⟩
    rcases Nat.lt_or_ge i n with hi | hi
    · rw [List.getElem?_append_left (by omega)] at hy; exact hL i y hy
    · rw [List.getElem?_append_right (by omega), hl] at hy
      obtain ⟨k, rfl⟩ : ∃ k, i = n + k := ⟨i - n, by omega⟩
      rw [Nat.add_sub_cancel_left] at hy
      cases k with
      | zero => simp at hy; subst hy; exact hx
      | succ k => simp at hy

section
variable {H : Type} {enc : TypeId × Value → H} {P : Program}
theorem open_three {w : World} {base : Nat} {spare : Nat → Bool} {held : Bool} {t e : TypeId} {f0 f1 f2 : Field} {fuel : Nat} {cs : List Value} {x : DataW H × List MemPlace}
    (ht : P.underlying t = some (.slice e)) (he : P.underlying e = some (.struct #[f0, f1, f2])) (o0 : f0.offset = 0) (o1 : f1.offset = 1) (o2 : f2.offset = 2) (k0 : P.cellsOf f0.type = 1) (k1 : P.cellsOf f1.type = 1) (k2 : P.cellsOf f2.type = 1) (hC : P.cellsOf e = 3)
    (h : DataW.trod enc P w base spare held fuel t cs = some x) :
    (cs = [.slice none 0 0]) ∨
    ∃ (a : Addr) (len cap : Nat), cs = [.slice (some a) len cap] ∧ len ≤ cap ∧ cap ≤ maxLen ∧ ∀ i, i < len → ∃ v0 v1 v2 n y0 y1 y2, w.cell? (a.add (i * 3)) = some v0 ∧ w.cell? ((a.add (i * 3)).add 1) = some v1 ∧ w.cell? ((a.add (i * 3)).add 2) = some v2 ∧
      DataW.trod enc P w base spare held n f0.type [v0] = some y0 ∧ DataW.trod enc P w base spare held n f1.type [v1] = some y1 ∧ DataW.trod enc P w base spare held n f2.type [v2] = some y2 := by
  rcases Go.Deep.open_slice ht h with h0 | ⟨a, len, cap, m, n, D, Pl, hcs, hb, hl, hm, hmm, hx, hi⟩
  · exact .inl h0.1
  · refine .inr ⟨a, len, cap, hcs, hl, hm, fun i hil => ?_⟩
    obtain ⟨cs', hc, ht'⟩ := hi i (by rw [hmm]; split <;> omega)
    rw [hC] at hc
    obtain ⟨_, hlen, hat⟩ := World.cells?_some hc
    match cs', hlen with
    | [v0, v1, v2], _ =>
      obtain ⟨ys, n', _, hy, _, hyl, hf⟩ := DataW.trod_struct he ht'
      match ys, hyl with
      | [y0, y1, y2], _ =>
        have g0 := hf 0 f0 rfl
        have g1 := hf 1 f1 rfl
        have g2 := hf 2 f2 rfl
        rw [o0, k0] at g0
        rw [o1, k1] at g1
        rw [o2, k2] at g2
        have c0 := hat 0 (by omega)
        have c1 := hat 1 (by omega)
        have c2 := hat 2 (by omega)
        refine ⟨v0, v1, v2, n', y0, y1, y2, ?_, c1, c2, g0, g1, g2⟩
        simpa [Addr.add] using c0
end
theorem wantsV_len (l : List WantD) : (wantsV l).length = l.length * 3 := by
  induction l with
  | nil => rfl
  | cons a l ih => rw [wantsV, List.flatMap_cons, List.length_append, ← wantsV, ih]; simp [wantV]; omega
theorem Tryd.want : ∃ f0 f1 f2, Tryd.prog.underlying 36 = some (.struct #[f0, f1, f2]) ∧ f0.offset = 0 ∧ f1.offset = 1 ∧ f2.offset = 2 ∧ f0.type = 9 ∧ f1.type = 3 ∧ f2.type = 3 := by
  exact ⟨_, _, _, Tryd.underlying36, rfl, rfl, rfl, rfl, rfl, rfl⟩

set_option maxRecDepth 100000 in
theorem wants_of {H : Type} {enc : TypeId × Value → H} {W : World} {base : Nat} {v : Value} {d : DataW H} {p : List MemPlace}
    (hv : Value.okWide Tryd.prog W .any base 22 v) (h : DataW.Trod enc Tryd.prog W 0 (fun _ => true) true 22 v d p) :
    ∃ (n : Nat) (L : List WantD), L.length = n ∧ Rd W W.heap.size 3 v n (wantsV L) ∧ ∀ x ∈ L, i64 x.rights := by
  obtain ⟨a0, len, cap, rfl⟩ := okWide_slice Tryd.underlying22 hv
  obtain ⟨fuel, hf⟩ := h
  obtain ⟨f0, f1, f2, hu, o0, o1, o2, t0, t1, t2⟩ := Tryd.want
  rcases open_three Tryd.underlying22 hu o0 o1 o2 (by rw [t0]; kernel_rfl) (by rw [t1]; kernel_rfl) (by rw [t2]; kernel_rfl) (show Tryd.prog.cellsOf 36 = 3 by kernel_rfl) hf with hcs | ⟨a, len', cap', hcs, hl, hm, hi⟩
  · simp [Value.cells] at hcs
    obtain ⟨rfl, rfl, rfl⟩ := hcs
    exact ⟨0, [], rfl, ⟨rfl, _, _, rfl, Nat.le_refl _, Nat.zero_le _, fun h => absurd h (Nat.lt_irrefl _)⟩, fun x hx => by cases hx⟩
  · simp [Value.cells] at hcs
    obtain ⟨rfl, rfl, rfl⟩ := hcs
    obtain ⟨L, hL, hall⟩ := list_of (fun i (x : WantD) => W.cell? (a.add (i * 3)) = some (.string x.name) ∧ W.cell? ((a.add (i * 3)).add 1) = some (.int .i64 x.rights) ∧ W.cell? ((a.add (i * 3)).add 2) = some (.int .i64 x.draw) ∧ i64 x.rights) len (by
      intro i hil
      obtain ⟨v0, v1, v2, n, y0, y1, y2, c0, c1, c2, g0, g1, g2⟩ := hi i hil
      rw [t0] at g0
      rw [t1] at g1
      rw [t2] at g2
      obtain ⟨s, e0, _, _⟩ := DataW.trod_string Tryd.underlying9 g0
      obtain ⟨m, e1, _, wf⟩ := DataW.trod_int Tryd.underlying3 g1
      obtain ⟨q, e2, _, _⟩ := DataW.trod_int Tryd.underlying3 g2
      simp at e0 e1 e2
      subst e0 e1 e2
      have hb : -9223372036854775808 ≤ m ∧ m ≤ 9223372036854775807 := by simpa [Lit.wf, IntKind.min, IntKind.max, IntKind.signed, IntKind.bits] using wf
      exact ⟨⟨s, m, q⟩, c0, c1, c2, hb⟩)
    refine ⟨len, L, hL, ⟨by rw [wantsV_len, hL], _, _, rfl, hl, hm, fun hn => ?_⟩, fun x hx => ?_⟩
    · obtain ⟨b, off, spot⟩ := a
      have h0 := hall 0 (L[0]'(by omega)) (List.getElem?_eq_getElem (by omega))
      have hspot : spot = none := by simpa [Addr.add] using World.cell?_spot h0.1
      subst hspot
      refine ⟨b, off, rfl, by simpa [Addr.add] using World.block_lt_of_cell? W _ h0.1, fun j u hj => ?_⟩
      have hjl : j < len * 3 := by
        rcases Nat.lt_or_ge j (len * 3) with h | h
        · exact h
        · rw [List.getElem?_eq_none (by rw [wantsV_len, hL]; exact h)] at hj; cases hj
      obtain ⟨i, k, hk, rfl⟩ : ∃ i k, k < 3 ∧ j = i * 3 + k := ⟨j / 3, j % 3, Nat.mod_lt _ (by omega), by omega⟩
      have hil : i < L.length := by omega
      have hg : L[i]? = some L[i] := List.getElem?_eq_getElem hil
      rw [wantsV_at L i L[i] hg k hk] at hj
      obtain ⟨c0, c1, c2, _⟩ := hall i L[i] hg
      rw [Addr.add_lit] at c0 c1 c2
      rw [Addr.add_lit] at c1 c2
      rcases (by omega : k = 0 ∨ k = 1 ∨ k = 2) with rfl | rfl | rfl
      · exact c0.trans hj
      · exact c1.trans hj
      · exact c2.trans hj
    · obtain ⟨i, hi'⟩ := List.mem_iff_getElem?.1 hx
      exact (hall i x hi').2.2.2
end Go.Proofs.YtfoipadgicjcaaaDoor
