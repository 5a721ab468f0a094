/- What the laws over rule.Next use: lives; Next of few cells; a rule as an argument. -/
import Derived.Test.YtkandepkojfblaaNextW
import Derived.Test.YtkandepkojfblaaLifeMap
import Derived.Test.YtkandepkojfblaaCells
namespace Go.Proofs.Ytkandepkojfblaa
open Go.RowKit Go.ChangeShapes Go.WideShapes

theorem blinker (c : Int × Int) : liveC 8 12 [(0, 0), (1, 0), (2, 0)] c = true ↔ c ∈ [((1 : Int), (-1 : Int)), (1, 0), (1, 1)] := by
  constructor
  · intro h
    obtain ⟨s, hs, hcl⟩ := live_close (by decide) h
    obtain ⟨x, y⟩ := c
    obtain ⟨u, v⟩ := s
    have hsv : (0 ≤ u ∧ u ≤ 2) ∧ v = 0 := by
      simp at hs; omega
    unfold close at hcl
    dsimp only at hcl
    have hx : x = -1 ∨ x = 0 ∨ x = 1 ∨ x = 2 ∨ x = 3 := by omega
    have hy : y = -1 ∨ y = 0 ∨ y = 1 := by omega
    clear hs hcl hsv
    rcases hx with rfl | rfl | rfl | rfl | rfl <;> rcases hy with rfl | rfl | rfl <;> first | (simp; done) | (exact absurd h (by decide +kernel))
  · intro h
    simp at h
    rcases h with rfl | rfl | rfl <;> decide +kernel
theorem tid_three : Tid [(0, 0), (1, 0), (2, 0)] [(0, 0), (1, 0), (2, 0)] := ⟨by simp [ltC], fun _ => Iff.rfl⟩
theorem tid_blinker : [((1 : Int), (-1 : Int)), (1, 0), (1, 1)].Pairwise ltC := by simp [ltC]

/-- Next of so few cells: what lives, in order. -/
def NextOk (w : World) (b lv : Int) (l : List (Int × Int)) (e : Ending) (w' : World) : Prop :=
  ∃ A m t, e = .returned (.tuple #[.slice A m m, .int .i64 0]) ∧ (∃ u L, Tid l u ∧ Tid L t ∧ ∀ c, c ∈ L ↔ liveC b lv u c = true) ∧ m ≤ 4096 ∧ t.length = m ∧ Sl w' 41 2 (.slice A m m) m (flat t) ∧ (∀ q, sblk (.slice A m m) = some q → w.heap.size ≤ q) ∧ Below w.heap.size w w'
theorem next_ok (w : World) (b lv : Int) (hg : goodR b lv) (n : Nat) (v : Value) (l : List (Int × Int)) (h : Rd w w.heap.size 2 v n (flat l)) (hn : n ≤ 400) (hok : ∀ c ∈ l, tight c) :
    Calls Try.prog 16 #[.agg #[.int .i64 b, .int .i64 lv], v] w (NextOk w b lv l) := by
  refine (next_any w b lv hg n v l h (by omega) hok).mono ?_
  rintro e w' ⟨t, L, ht, hnd, hL, hlen, hb, ⟨hfull, A, m, t', rfl, ht', hs, hf⟩ | ⟨hfull, _⟩⟩
  · have hm : t'.length = m := by have := hs.1; rw [flat_length] at this; omega
    have hm2 := tid_length ht'
    exact ⟨A, m, t', rfl, ⟨t, L, ht, ht', hL⟩, by omega, hm, hs, hf, hb⟩
  · exfalso
    have h1 := tid_length ht
    have h2 : l.length = n := h.pairs.1
    omega

set_option maxHeartbeats 800000 in
theorem lives_true (w : World) : Calls Try.prog 10 #[] w fun e w' => e = .returned (.bool true) ∧ Below w.heap.size w w' := by
  have HR : Hid (Rd (w.alloc (.cells #[.int .i64 0, .int .i64 0, .int .i64 1, .int .i64 0, .int .i64 2, .int .i64 0] 41)) (w.heap.size + 1) 2 (.slice (some ⟨w.heap.size, 0, none⟩) 3 3) 3 (flat [(0, 0), (1, 0), (2, 0)])) := fresh_cells w [(0, 0), (1, 0), (2, 0)] 3 rfl (by unfold maxLen; omega)
  have hbl := Lib.hid ((Below.refl w.heap.size w).alloc (Nat.le_refl _) (.cells #[.int .i64 0, .int .i64 0, .int .i64 1, .int .i64 0, .int .i64 2, .int .i64 0] 41))
  go_enter Try.func10, Try.ntmps10
  go_wp2_with fail
  (with_reducible refine (next_ok _ 8 12 (by unfold goodR; omega) 3 _ [(0, 0), (1, 0), (2, 0)] (by rw [World.size_alloc]; exact HR.out) (by omega) (by intro c hc; simp at hc; rcases hc with rfl | rfl | rfl <;> (unfold tight; decide))).mono ?_)
  rintro e w1 ⟨A1, m1, t1, rfl, ⟨u, L, hu, hL, hmem⟩, _, hlen, hs1, hf1, hb1⟩
  obtain rfl := hu.unique tid_three
  have htt : t1 = [((1 : Int), (-1 : Int)), (1, 0), (1, 1)] := hL.unique ⟨tid_blinker, fun c => by rw [hmem c, blinker]⟩
  subst htt
  have hm1 : m1 = 3 := by simpa using hlen.symm
  subst hm1
  have HR1 : Hid (Rd (w1.alloc (.cells #[.int .i64 1, .int .i64 (-1), .int .i64 1, .int .i64 0, .int .i64 1, .int .i64 1] 41)) (w1.heap.size + 1) 2 (.slice A1 3 3) 3 (flat [((1 : Int), (-1 : Int)), (1, 0), (1, 1)])) := by
    have := (hs1.alloc (.cells #[.int .i64 1, .int .i64 (-1), .int .i64 1, .int .i64 0, .int .i64 1, .int .i64 1] 41)).rd
    rwa [World.size_alloc] at this
  have HR2 : Hid (Rd (w1.alloc (.cells #[.int .i64 1, .int .i64 (-1), .int .i64 1, .int .i64 0, .int .i64 1, .int .i64 1] 41)) (w1.heap.size + 1) 2 (.slice (some ⟨w1.heap.size, 0, none⟩) 3 3) 3 (flat [((1 : Int), (-1 : Int)), (1, 0), (1, 1)])) := fresh_cells w1 [((1 : Int), (-1 : Int)), (1, 0), (1, 1)] 3 rfl (by unfold maxLen; omega)
  have HB1 : Hid (Below w.heap.size w w1) := hbl.out.trans (hb1.mono (by simp))
  clear hs1 hf1 hb1 hu hL hmem hlen
  go_wp2_with fail
  (with_reducible refine (same_true _ _ _ 3 _ _ [((1 : Int), (-1 : Int)), (1, 0), (1, 1)] HR1.out HR2.out).mono ?_)
  rintro e w2 ⟨rfl, d, rfl⟩
  go_wp2
  go_ret
  have hz := HB1.out.alloc HB1.out.size (.cells #[.int .i64 1, .int .i64 (-1), .int .i64 1, .int .i64 0, .int .i64 1, .int .i64 1] 41)
  exact ⟨rfl, ⟨hz.os, hz.tape, hz.output, hz.size, hz.block⟩⟩

theorem Try.ruleS : ∃ f0 f1, Try.prog.underlying 23 = some (.struct #[f0, f1]) ∧ f0.offset = 0 ∧ f1.offset = 1 ∧ f0.type = 3 ∧ f1.type = 3 := by
  exact ⟨_, _, Try.underlying23, rfl, rfl, rfl, rfl⟩
theorem Try.cellsRule : Try.prog.cellsOf 23 = 2 := by kernel_rfl

set_option maxRecDepth 100000 in
/-- A rule as an argument. -/
theorem rule_of {H : Type} {enc : TypeId × Value → H} {W : World} {base : Nat} {v : Value} {d : DataW H} {p : List MemPlace}
    (hv : Value.okWide Try.prog W .any base 23 v) (h : DataW.Trod enc Try.prog W 0 (fun _ => true) true 23 v d p) :
    ∃ b l : Int, v = .agg #[.int .i64 b, .int .i64 l] ∧ (-9223372036854775808 ≤ b ∧ b ≤ 9223372036854775807) ∧ (-9223372036854775808 ≤ l ∧ l ≤ 9223372036854775807) := by
  obtain ⟨f0, f1, hu, o0, o1, t0, t1⟩ := Try.ruleS
  obtain ⟨cs, rfl, hsz⟩ := okWide_struct hu hv
  rw [Try.cellsRule] at hsz
  obtain ⟨fuel, hf⟩ := h
  obtain ⟨ys, n', _, hy, _, hyl, hfs⟩ := DataW.trod_struct hu hf
  have hcs : ∃ x y, cs = #[x, y] := by
    obtain ⟨l⟩ := cs
    match l, hsz with
    | [x, y], _ => exact ⟨x, y, rfl⟩
  obtain ⟨x, y, rfl⟩ := hcs
  match ys, hyl with
  | [y0, y1], _ =>
    have g0 := hfs 0 f0 rfl
    have g1 := hfs 1 f1 rfl
    rw [o0, t0, Try.cellsInt] at g0
    rw [o1, t1, Try.cellsInt] at g1
    simp only [Value.cells, List.drop_zero, List.take_succ_cons, List.take_zero, List.drop_succ_cons] at g0 g1
    obtain ⟨m0, e0, _, wf0⟩ := DataW.trod_int Try.underlying3 g0
    obtain ⟨m1, e1, _, wf1⟩ := DataW.trod_int Try.underlying3 g1
    simp at e0 e1
    subst e0 e1
    exact ⟨m0, m1, rfl, by simpa [Lit.wf, IntKind.min, IntKind.max, IntKind.signed, IntKind.bits] using wf0, by simpa [Lit.wf, IntKind.min, IntKind.max, IntKind.signed, IntKind.bits] using wf1⟩
end Go.Proofs.Ytkandepkojfblaa
