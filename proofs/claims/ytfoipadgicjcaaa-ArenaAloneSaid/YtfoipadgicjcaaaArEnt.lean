/- arena: a whole entry is written; the index is another. -/
import Derived.Test.YtfoipadgicjcaaaArTake
namespace Go.Proofs.Ytfoipadgicjcaaa
open Go.RowKit

theorem entsV_put : ∀ (l : List EntD) (i : Nat) (e e' : EntD), l[i]? = some e → ((((((((entsV l).set (i * 8) (.int .i64 e'.key.kind)).set (i * 8 + 1) (.int .i64 e'.key.a0)).set (i * 8 + 2) (.int .i64 e'.key.a1)).set (i * 8 + 3) (.int .i64 e'.key.a2)).set (i * 8 + 4) (.int .i64 e'.key.a3)).set (i * 8 + 5) (.int .i64 e'.level)).set (i * 8 + 6) (.int .i64 e'.value)).set (i * 8 + 7) (.int .u64 (e'.mask : Int)) = entsV (l.set i e')
  | [], i, e, e', h => by simp at h
  | a :: l, 0, e, e', h => by
    simp [entsV, entV]
  | a :: l, i + 1, e, e', h => by
    have ih := entsV_put l i e e' (by simpa using h)
    have e1 : entsV (a :: l) = entV a ++ entsV l := rfl
    have e2 : entsV ((a :: l).set (i + 1) e') = entV a ++ entsV (l.set i e') := rfl
    have hx : ∀ (xs : List Value) (k : Nat) (u : Value), (entV a ++ xs).set ((i + 1) * 8 + k) u = entV a ++ xs.set (i * 8 + k) u := by
      intro xs k u
      rw [List.set_append_right _ _ (by simp [entV]; omega)]
      congr 2
      simp [entV]; omega
    have hx0 : ∀ (xs : List Value) (u : Value), (entV a ++ xs).set ((i + 1) * 8) u = entV a ++ xs.set (i * 8) u := fun xs u => hx xs 0 u
    rw [e1, e2, ← ih]
    simp only [hx, hx0]
def wrote8 (w : World) (b o : Nat) (e : EntD) : World :=
  (((((((w.setCell ⟨b, o, none⟩ (.int .i64 e.key.kind)).setCell ⟨b, o + 1, none⟩ (.int .i64 e.key.a0)).setCell ⟨b, o + 2, none⟩ (.int .i64 e.key.a1)).setCell ⟨b, o + 3, none⟩ (.int .i64 e.key.a2)).setCell ⟨b, o + 4, none⟩ (.int .i64 e.key.a3)).setCell ⟨b, o + 5, none⟩ (.int .i64 e.level)).setCell ⟨b, o + 6, none⟩ (.int .i64 e.value)).setCell ⟨b, o + 7, none⟩ (.int .u64 (e.mask : Int))
theorem size_wrote8 (w : World) (b o : Nat) (e : EntD) : (wrote8 w b o e).heap.size = w.heap.size := by
  unfold wrote8; simp only [World.size_setCell]
theorem mod_wrote8 (w : World) (b o : Nat) (e : EntD) : Mod (fun q => q = b) w (wrote8 w b o e) := by
  unfold wrote8
  exact ((((((((Mod.refl (fun q => q = b) w).set (p := ⟨b, o, none⟩) (fun _ => rfl) _).set (p := ⟨b, o + 1, none⟩) (fun _ => rfl) _).set (p := ⟨b, o + 2, none⟩) (fun _ => rfl) _).set (p := ⟨b, o + 3, none⟩) (fun _ => rfl) _).set (p := ⟨b, o + 4, none⟩) (fun _ => rfl) _).set (p := ⟨b, o + 5, none⟩) (fun _ => rfl) _).set (p := ⟨b, o + 6, none⟩) (fun _ => rfl) _).set (p := ⟨b, o + 7, none⟩) (fun _ => rfl) _
section
variable {w w' : World} {p : Nat} {R : ArR} {S : ArS}
/-- An entry is written. -/
theorem ArM.setEnt (h : ArM w p R S) {b off cap n : Nat} (hlv : R.lv = .slice (some ⟨b, off, none⟩) n cap) {i : Nat} {e e' : EntD} (he : S.ents[i]? = some e) (hm : e'.mask < 18446744073709551616) :
    ArM (wrote8 w b (off + i * 8) e') p R { S with ents := S.ents.set i e' } ∧ Step p R R w (wrote8 w b (off + i * 8) e') := by
  have hi := (List.getElem?_eq_some_iff.1 he).1
  obtain ⟨n1, n2, n3, n4⟩ := h.list_ne (b := b) (by rw [hlv]; rfl)
  have hM := mod_wrote8 w b (off + i * 8) e'
  refine ⟨⟨?_, ?_, ?_, ?_, ?_, h.sep1, h.sep2, ?_⟩, hM.mono fun q _ hq => ?_, fun q hq => .inl hq⟩
  · rw [arCells_ents]; exact h.blk.mod hM (Ne.symm n1)
  · have hl := h.list
    rw [hlv] at hl ⊢
    have hn : n = S.ents.length := by obtain ⟨_, A, c, e1, _⟩ := hl; injection e1
    subst hn
    have k := (((((((hl.putAt (i := i * 8) (by omega) (.int .i64 e'.key.kind)).putAt (i := i * 8 + 1) (by omega) (.int .i64 e'.key.a0)).putAt (i := i * 8 + 2) (by omega) (.int .i64 e'.key.a1)).putAt (i := i * 8 + 3) (by omega) (.int .i64 e'.key.a2)).putAt (i := i * 8 + 4) (by omega) (.int .i64 e'.key.a3)).putAt (i := i * 8 + 5) (by omega) (.int .i64 e'.level)).putAt (i := i * 8 + 6) (by omega) (.int .i64 e'.value)).putAt (i := i * 8 + 7) (by omega) (.int .u64 (e'.mask : Int))
    rw [entsV_put _ _ _ _ he] at k
    show Sl _ EN 8 _ (S.ents.set i _).length (entsV (S.ents.set i _))
    rw [List.length_set]; exact k
  · exact h.idx.of_block (hM.block _ h.idx.lt (Ne.symm n2))
  · exact h.free.mod hM fun q hq e => n3 (e ▸ hq)
  · exact fun t ht => (h.added t ht).mod hM fun q hq e => n4 t ht (e ▸ hq)
  · intro e1 he1
    rcases List.mem_or_eq_of_mem_set he1 with h1 | h1
    · exact h.masks _ h1
    · rw [h1]; exact hm
  · subst hq; exact Own.list hlv
/-- The index is another one. -/
theorem ArM.reidx (h : ArM w p R S) {c : Nat} {m : KeyA → Option Int} (hk : MapK w' R.mb c m) (hm : Mod (fun q => q = R.mb) w w') : ArM w' p R { S with idx := m, size := c } ∧ Step p R R w w' := by
  obtain ⟨n1, n2, n3, n4⟩ := h.p_ne
  obtain ⟨m1, m2, m3⟩ := h.mb_ne
  refine ⟨⟨h.blk.mod hm n1, h.list.mod hm fun q hq e => m1 (e ▸ hq), hk, h.free.mod hm fun q hq e => m2 (e ▸ hq), fun t ht => (h.added t ht).mod hm fun q hq e => m3 t ht (e ▸ hq), h.sep1, h.sep2, h.masks⟩, hm.mono fun q _ hq => .inr (.inl hq), fun q hq => .inl hq⟩
/-- The cells of an entry. -/
theorem ArM.cells8 (h : ArM w p R S) {i : Nat} {e : EntD} (he : S.ents[i]? = some e) : ∃ b off cap, R.lv = .slice (some ⟨b, off, none⟩) S.ents.length cap ∧
    (w.cell? ⟨b, off + i * 8, none⟩ = some (.int .i64 e.key.kind) ∧ w.cell? ⟨b, off + i * 8 + 1, none⟩ = some (.int .i64 e.key.a0) ∧ w.cell? ⟨b, off + i * 8 + 2, none⟩ = some (.int .i64 e.key.a1) ∧ w.cell? ⟨b, off + i * 8 + 3, none⟩ = some (.int .i64 e.key.a2) ∧
      w.cell? ⟨b, off + i * 8 + 4, none⟩ = some (.int .i64 e.key.a3) ∧ w.cell? ⟨b, off + i * 8 + 5, none⟩ = some (.int .i64 e.level) ∧ w.cell? ⟨b, off + i * 8 + 6, none⟩ = some (.int .i64 e.value) ∧ w.cell? ⟨b, off + i * 8 + 7, none⟩ = some (.int .u64 (e.mask : Int))) ∧ ∀ j, w.frozen? ⟨b, j, none⟩ = false := by
  obtain ⟨b, off, cap, hlv, hc1, hc2, hc, hfr⟩ := h.ents (by have := (List.getElem?_eq_some_iff.1 he).1; omega)
  exact ⟨b, off, cap, hlv, ⟨hc i e 0 _ he rfl, hc i e 1 _ he rfl, hc i e 2 _ he rfl, hc i e 3 _ he rfl, hc i e 4 _ he rfl, hc i e 5 _ he rfl, hc i e 6 _ he rfl, hc i e 7 _ he rfl⟩, hfr⟩
theorem ArM.cells8' (h : ArM w p R S) {b off n cap : Nat} (hlv : R.lv = .slice (some ⟨b, off, none⟩) n cap) {i : Nat} {e : EntD} (he : S.ents[i]? = some e) :
    (w.cell? ⟨b, off + i * 8, none⟩ = some (.int .i64 e.key.kind) ∧ w.cell? ⟨b, off + i * 8 + 1, none⟩ = some (.int .i64 e.key.a0) ∧ w.cell? ⟨b, off + i * 8 + 2, none⟩ = some (.int .i64 e.key.a1) ∧ w.cell? ⟨b, off + i * 8 + 3, none⟩ = some (.int .i64 e.key.a2) ∧
      w.cell? ⟨b, off + i * 8 + 4, none⟩ = some (.int .i64 e.key.a3) ∧ w.cell? ⟨b, off + i * 8 + 5, none⟩ = some (.int .i64 e.level) ∧ w.cell? ⟨b, off + i * 8 + 6, none⟩ = some (.int .i64 e.value) ∧ w.cell? ⟨b, off + i * 8 + 7, none⟩ = some (.int .u64 (e.mask : Int))) ∧
    (w.frozen? ⟨b, off + i * 8, none⟩ = false ∧ w.frozen? ⟨b, off + i * 8 + 1, none⟩ = false ∧ w.frozen? ⟨b, off + i * 8 + 2, none⟩ = false ∧ w.frozen? ⟨b, off + i * 8 + 3, none⟩ = false ∧ w.frozen? ⟨b, off + i * 8 + 4, none⟩ = false ∧ w.frozen? ⟨b, off + i * 8 + 5, none⟩ = false ∧ w.frozen? ⟨b, off + i * 8 + 6, none⟩ = false ∧ w.frozen? ⟨b, off + i * 8 + 7, none⟩ = false) := by
  obtain ⟨b', off', cap', hlv', h8, hf⟩ := h.cells8 he
  rw [hlv] at hlv'
  injection hlv' with h1 h2 h3
  injection h1 with h1
  injection h1 with h1 h4 _
  subst h1; subst h4
  exact ⟨h8, hf _, hf _, hf _, hf _, hf _, hf _, hf _, hf _⟩
end
end Go.Proofs.Ytfoipadgicjcaaa
