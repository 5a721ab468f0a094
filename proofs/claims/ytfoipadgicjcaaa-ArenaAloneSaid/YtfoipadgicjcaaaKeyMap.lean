/- The arena's index: map[key]int. -/
import Derived.Test.YtfoipadgicjcaaaArena
namespace Go.Proofs.Ytfoipadgicjcaaa
open Go.RowKit Go.ChangeMaps Go.WideElems Go.WideMaps

theorem Try.laidOutK : laidOutB Try.prog = true := by kernel_rfl
theorem Try.klKey : KeyLaw Try.prog 96 := deep_law_laid Try.laidOutK (m := 3) (by omega) (of_decide_eq_true (by kernel_rfl)) (by kernel_rfl) (by rw [Try.underlying96])
theorem Try.lawKey : Maps.Keyed Try.prog 96 := Maps.Keyed.of_law Try.klKey
theorem Try.zeroIntK (w : World) : (zeroValue 3).run Try.prog w = .ok (.int .i64 0) w := by kernel_rfl
theorem Try.keyTypeKey : Try.prog.keyType 96 = true := by kernel_rfl
theorem Try.typesSizeK : ∃ m, Try.prog.types.size = m + 3 := ⟨Try.prog.types.size - 3, by have : 3 ≤ Try.prog.types.size := of_decide_eq_true (by kernel_rfl); omega⟩
theorem Try.keyFields : ∃ f0 f1, Try.prog.underlying 96 = some (.struct #[f0, f1]) ∧ f0.offset = 0 ∧ f1.offset = 1 ∧ f0.type = 3 ∧ f1.type = 37 ∧ (f0.name != "_") = true ∧ (f1.name != "_") = true := by
  exact ⟨_, _, Try.underlying96, rfl, rfl, rfl, rfl, by decide, by decide⟩
theorem Try.cellsK5 : Try.prog.cellsOf 96 = 5 := by kernel_rfl
theorem Try.cellsK4 : Try.prog.cellsOf 37 = 4 := by kernel_rfl
theorem Try.cellsK1 : Try.prog.cellsOf 3 = 1 := by kernel_rfl

def KeyA.lits (k : KeyA) : List Lit := [.int .i64 k.kind, .int .i64 k.a0, .int .i64 k.a1, .int .i64 k.a2, .int .i64 k.a3]
def KeyA.val (k : KeyA) : Value := .agg #[.int .i64 k.kind, .int .i64 k.a0, .int .i64 k.a1, .int .i64 k.a2, .int .i64 k.a3]
def KeyA.lit (k : KeyA) : Lit := .string (keyBytes k.lits)
def i64r (x : Int) : Prop := -9223372036854775808 ≤ x ∧ x ≤ 9223372036854775807
def KeyA.ok (k : KeyA) : Prop := i64r k.kind ∧ i64r k.a0 ∧ i64r k.a1 ∧ i64r k.a2 ∧ i64r k.a3
theorem i64r.wf {x : Int} (h : i64r x) : (Lit.int .i64 x).wf = true := by
  obtain ⟨h1, h2⟩ := h
  simp [Lit.wf, IntKind.min, IntKind.max, IntKind.signed, IntKind.bits]; omega
set_option maxRecDepth 100000 in
theorem keyOf_key {k : KeyA} (h : k.ok) : keyOf Try.prog 96 k.val = some k.lit := by
  obtain ⟨w0, w1, w2, w3, w4⟩ := h
  have w0 := w0.wf
  have w1 := w1.wf
  have w2 := w2.wf
  have w3 := w3.wf
  have w4 := w4.wf
  obtain ⟨f0, f1, hu, o0, o1, t0, t1, n0, n1⟩ := Try.keyFields
  obtain ⟨m, hm⟩ := Try.typesSizeK
  unfold keyOf KeyA.val
  rw [hu]
  simp only
  rw [if_pos (by simp [Try.keyTypeKey, Value.formed, hu, Try.cellsK5]), hm]
  unfold Program.keyLits
  simp only [hu, Value.cells]
  rw [if_pos ⟨by rw [Try.cellsK5]; rfl, by simp only [List.all_toArray, List.all_cons, List.all_nil, n0, n1]; rfl⟩]
  simp only [List.mapM_cons, List.mapM_nil, o0, o1, t0, t1, Try.cellsK1, Try.cellsK4]
  simp [Program.keyLits, Try.underlying3, Try.underlying37, Try.cellsK1, w0, w1, w2, w3, w4, KeyA.lit, KeyA.lits]
  rw [if_pos Try.cellsK4.symm, show List.range 4 = [0, 1, 2, 3] from rfl]
  simp [w1, w2, w3, w4]
theorem KeyA.lit_inj {a b : KeyA} (ha : a.ok) (hb : b.ok) (h : a.lit = b.lit) : a = b := by
  have := Try.lawKey.inj (keyOf_key ha) (h ▸ keyOf_key hb)
  unfold KeyA.val at this
  simp at this
  obtain ⟨h0, h1, h2, h3, h4⟩ := this
  cases a; cases b
  simp at h0 h1 h2 h3 h4
  subst h0 h1 h2 h3 h4
  rfl
theorem KeyA.lit_ne {a b : KeyA} (ha : a.ok) (hb : b.ok) (h : a ≠ b) : a.lit ≠ b.lit := fun e => h (KeyA.lit_inj ha hb e)
theorem KeyA.isKey (k : KeyA) : WideAt.IsKeyLit k.lit := trivial

/-- Block b is this map, of c entries. -/
def MapK (w : World) (b c : Nat) (m : KeyA → Option Int) : Prop :=
  ∃ D : DataW Unit, w.ownsMap Try.prog 96 (plainElem Try.prog 3) b c D ∧ Maps.size D = c ∧
    ∀ k : KeyA, k.ok → Maps.has D k.lit = (m k).isSome ∧ ∀ v, m k = some v → D.atKey k.lit (.lit (.int .i64 0)) = .lit (.int .i64 v)
theorem ownsMap_blockK {H : Type} {P : Program} {k : TypeId} {R : Value → Option (DataW H × List MemPlace)} {w w' : World} {b n : Nat} {D : DataW H} (h : w.ownsMap P k R b n D) (e : w'.heap[b]? = w.heap[b]?) : w'.ownsMap P k R b n D := by
  obtain ⟨es, clock, hb, F, hs, hD⟩ := h
  exact ⟨es, clock, e.trans hb, F, hs, hD⟩
theorem ownsMap_tight {H : Type} {P : Program} {k : TypeId} {R : Value → Option (DataW H × List MemPlace)} {w : World} {b n : Nat} {D : DataW H} (h : w.ownsMap P k R b n D) : w.ownsMap P k R b (Maps.size D) D := by
  obtain ⟨es, clock, hb, F, hs, hD⟩ := h
  refine ⟨es, clock, hb, F, ?_, hD⟩
  rw [hD]
  simp [Maps.size, length_sorted]
section
variable {w w' : World} {b c : Nat} {m : KeyA → Option Int}
theorem MapK.of_block (h : MapK w b c m) (e : w'.heap[b]? = w.heap[b]?) : MapK w' b c m := by obtain ⟨D, h1, h2⟩ := h; exact ⟨D, ownsMap_blockK h1 e, h2⟩
theorem MapK.lt (h : MapK w b c m) : b < w.heap.size := by obtain ⟨D, h1, _⟩ := h; exact h1.lt
theorem MapK.made (w : World) : MapK (w.alloc (.map #[] 0)) w.heap.size 0 (fun _ => none) := ⟨_, World.ownsMap_made w _ _ _, rfl, fun _ _ => ⟨rfl, fun _ h => by cases h⟩⟩
theorem turned_modK {w w' : World} {b : Nat} (h : w.mapTurned w' b) : Mod (fun k => k = b) w w' := by
  have hg := h.grown
  exact ⟨hg.os, hg.tape, hg.output, hg.size, fun k hk hn => hg.block k hk (by simpa using hn)⟩
/-- No block of cells is a map. -/
theorem MapK.ne (h : MapK w b c m) {p t : Nat} {cs : Array Value} (hp : Blk w p t cs) : b ≠ p := by
  rintro rfl
  obtain ⟨D, ⟨es, clock, hb, _⟩, _⟩ := h
  unfold Blk at hp
  rw [hb] at hp
  cases hp
set_option maxRecDepth 100000 in
/-- 'v, ok := m[k]'. -/
theorem MapK.look (h : MapK w b c m) {k : KeyA} (hk : k.ok) :
    ∃ v, (Instr.lookup 87 (.map (some b)) k.val true).run Try.prog w = .ok (.tuple #[.int .i64 v, .bool (m k).isSome]) w ∧ ∀ x, m k = some x → v = x := by
  obtain ⟨D, hown, _, h1⟩ := h
  obtain ⟨v, ps, hrun, hv⟩ := hown.look_ok Try.lawKey Try.underlying87 (Try.zeroIntK w) (plainElem_int Try.underlying3 (by decide)) (keyOf_key hk)
  obtain ⟨x, rfl, hx, _⟩ := plainElem_int_inv Try.underlying3 hv
  refine ⟨x, by rw [hrun, (h1 k hk).1], fun y hy => ?_⟩
  have h2 := (h1 k hk).2 y hy
  simp only [Prod.mk.injEq] at hx
  rw [h2] at hx
  have := hx.1
  injection this with this
  injection this with _ this
  exact this.symm
set_option maxRecDepth 100000 in
/-- 'm[k] = v', k being new. -/
theorem MapK.put (h : MapK w b c m) {k : KeyA} (hk : k.ok) (hn : m k = none) (hc : c < maxLen) {v : Int} (hv : i64r v) :
    ∃ w', (Instr.mapUpdate 87 (.map (some b)) k.val (.int .i64 v)).run Try.prog w = .ok () w' ∧ MapK w' b (c + 1) (fun k' => if k' = k then some v else m k') ∧ Mod (fun q => q = b) w w' := by
  obtain ⟨D, hown, hs, h1⟩ := h
  obtain ⟨w', u1, u2, u3⟩ := hown.store Try.lawKey Try.underlying87 hc (keyOf_key hk) (plainElem_int Try.underlying3 hv.wf)
  refine ⟨w', u1, ⟨_, u2, ?_, fun e he => ?_⟩, turned_modK u3⟩
  · rw [Maps.size_put (hown.tidy Try.lawKey), hs, (h1 k hk).1, hn]; rfl
  · by_cases hce : e = k
    · subst hce
      simp only [if_pos]
      refine ⟨Maps.has_put_same hown.isMap e.isKey _, fun x hx => ?_⟩
      rw [Maps.atKey_put_same hown.isMap e.isKey]
      injection hx with hx; rw [hx]
    · simp only [if_neg hce]
      obtain ⟨g1, g2⟩ := h1 e he
      refine ⟨(Maps.has_put_other (KeyA.lit_ne he hk hce) _).trans g1, fun x hx => ?_⟩
      rw [Maps.atKey_put_other (KeyA.lit_ne he hk hce)]
      exact g2 x hx
/-- 'delete(m, k)', k being there. -/
theorem MapK.drop (h : MapK w b c m) {k : KeyA} (hk : k.ok) {v : Int} (hn : m k = some v) (ty : TypeId) :
    ∃ w', (Builtin.delete_ #[87, 96] ty #[.map (some b), k.val]).run Try.prog w = .ok (.tuple #[]) w' ∧ MapK w' b (c - 1) (fun k' => if k' = k then none else m k') ∧ Mod (fun q => q = b) w w' := by
  obtain ⟨D, hown, hs, h1⟩ := h
  obtain ⟨w', u1, u2, u3⟩ := hown.drop Try.lawKey Try.underlying87 (keyOf_key hk) ty
  have hsz := Maps.size_del (k := k.lit) (hown.tidy Try.lawKey)
  rw [(h1 k hk).1, hn, hs] at hsz
  have hsz' : Maps.size (D.del k.lit) = c - 1 := by simp at hsz; omega
  refine ⟨w', u1, ⟨_, ?_, hsz', fun e he => ?_⟩, turned_modK u3⟩
  · have := ownsMap_tight u2
    rw [hsz'] at this
    exact this
  · by_cases hce : e = k
    · subst hce
      simp only [if_pos]
      exact ⟨Maps.has_del_same .., fun x hx => by cases hx⟩
    · simp only [if_neg hce]
      obtain ⟨g1, g2⟩ := h1 e he
      refine ⟨(Maps.has_del_other (KeyA.lit_ne he hk hce)).trans g1, fun x hx => ?_⟩
      rw [Maps.atKey_del_other (KeyA.lit_ne he hk hce)]
      exact g2 x hx
end
end Go.Proofs.Ytfoipadgicjcaaa
