/- A set of numbers: map[int]struct{}. -/
import Derived.Test.YtfoipadgicjcaaaKeyMap
namespace Go.Proofs.Ytfoipadgicjcaaa
open Go.RowKit Go.ChangeMaps Go.WideElems Go.WideMaps

theorem Try.lawIntK : Maps.Keyed Try.prog 3 := Maps.int_keyed Try.underlying3
theorem Try.zeroUnitK (w : World) : (zeroValue 104).run Try.prog w = .ok (.agg #[]) w := by kernel_rfl
theorem keyOf_i {x : Int} (h : i64r x) : keyOf Try.prog 3 (.int .i64 x) = some (.int .i64 x) := Maps.keyOf_int_mk Try.underlying3 h.wf
/-- How many entries a block that is a map has. -/
def mapSize (w : World) (b : Nat) : Nat := match w.heap[b]? with | some (.map es _) => es.size | _ => 0
/-- Block b is the set of these numbers. -/
def MapI (w : World) (b : Nat) (l : List Int) : Prop :=
  ∃ D : DataW Unit, w.ownsMap Try.prog 3 unitElem b l.length D ∧ Maps.size D = l.length ∧ ∀ x, i64r x → Maps.has D (.int .i64 x) = decide (x ∈ l)
section
variable {w w' : World} {b : Nat} {l : List Int}
theorem MapI.of_block (h : MapI w b l) (e : w'.heap[b]? = w.heap[b]?) : MapI w' b l := by obtain ⟨D, h1, h2⟩ := h; exact ⟨D, ownsMap_blockK h1 e, h2⟩
theorem MapI.lt (h : MapI w b l) : b < w.heap.size := by obtain ⟨D, h1, _⟩ := h; exact h1.lt
theorem MapI.made (w : World) : MapI (w.alloc (.map #[] 0)) w.heap.size [] := ⟨_, World.ownsMap_made w _ _ _, rfl, fun x _ => by simp [Maps.has]⟩
theorem MapI.drew (h : MapI w b l) : MapI w.drew b l := h.of_block rfl
theorem MapI.mod {T : Nat → Prop} (h : MapI w b l) (hm : Mod T w w') (hT : ¬ T b) : MapI w' b l := h.of_block (hm.block _ h.lt hT)
theorem MapI.alloc (h : MapI w b l) (o : Obj) : MapI (w.alloc o) b l := h.of_block (Below.heap_alloc w o b h.lt)
theorem MapI.size (h : MapI w b l) : mapSize w b = l.length := by
  obtain ⟨D, ⟨es, clock, hb, F, hs, hD⟩, h2, _⟩ := h
  unfold mapSize
  rw [hb]
  rw [hD] at h2
  simp [Maps.size, length_sorted] at h2
  exact h2
theorem MapI.ne (h : MapI w b l) {p t : Nat} {cs : Array Value} (hp : Blk w p t cs) : b ≠ p := by
  rintro rfl
  obtain ⟨D, ⟨es, clock, hb, _⟩, _⟩ := h
  unfold Blk at hp
  rw [hb] at hp
  cases hp
/-- '_, ok := m[k]'. -/
theorem MapI.look (h : MapI w b l) {x : Int} (hx : i64r x) :
    (Instr.lookup 103 (.map (some b)) (.int .i64 x) true).run Try.prog w = .ok (.tuple #[.agg #[], .bool (decide (x ∈ l))]) w := by
  obtain ⟨D, hown, _, h1⟩ := h
  obtain ⟨v, ps, hrun, hv⟩ := hown.look_ok Try.lawIntK Try.underlying103 (Try.zeroUnitK w) unitElem_mk (keyOf_i hx)
  obtain ⟨rfl, _⟩ := unitElem_inv hv
  rw [hrun, h1 x hx]
/-- 'm[k] = struct{}{}', k being new. -/
theorem MapI.put (h : MapI w b l) {x : Int} (hx : i64r x) (hn : x ∉ l) (hc : l.length < maxLen) :
    ∃ w', (Instr.mapUpdate 103 (.map (some b)) (.int .i64 x) (.agg #[])).run Try.prog w = .ok () w' ∧ MapI w' b (x :: l) ∧ Mod (fun k => k = b) w w' := by
  obtain ⟨D, hown, hs, h1⟩ := h
  obtain ⟨w', u1, u2, u3⟩ := hown.store Try.lawIntK Try.underlying103 hc (keyOf_i hx) unitElem_mk
  refine ⟨w', u1, ⟨_, u2, ?_, fun e he => ?_⟩, turned_modK u3⟩
  · rw [Maps.size_put (hown.tidy Try.lawIntK), hs, h1 x hx, decide_eq_false hn]; rfl
  · by_cases hce : e = x
    · subst hce
      rw [Maps.has_put_same hown.isMap (show WideAt.IsKeyLit (.int .i64 e) from trivial)]; simp
    · rw [Maps.has_put_other (by intro e2; injection e2 with _ e2; exact hce e2), h1 e he]
      simp [hce]
end
end Go.Proofs.Ytfoipadgicjcaaa
