/- Words on memory: a block that is known whole, what a step may have changed, a slice that reads as a list of cells. No program is named here. -/
import Derived.WalkKit
import Derived.WalkSpells
import Derived.WalkLawsBesides
import Derived.Lib.Hide
import Derived.ArgAppend
import Derived.Deep.OwnRows
import Derived.Deep.Draws
import Derived.Laws.Rows
namespace Go.Proofs.YtlcjadgaommfmaaDoor
open Go.RowKit

/-- Block b is just the cells cs of type t, none frozen. -/
def Blk (w : World) (b : Nat) (t : TypeId) (cs : Array Value) : Prop := w.heap[b]? = some (.cells cs t (0, 0))

/-- From w to w' only new blocks, and old blocks for which S holds, may differ. -/
structure Mod (S : Nat → Prop) (w w' : World) : Prop where
  os : w'.os = w.os
  tape : w'.tape = w.tape
  output : w'.output = w.output
  size : w.heap.size ≤ w'.heap.size
  block : ∀ k, k < w.heap.size → ¬ S k → w'.heap[k]? = w.heap[k]?

theorem some_lt {w : World} {b : Nat} {o : Obj} (h : w.heap[b]? = some o) : b < w.heap.size := by
  rcases Nat.lt_or_ge b w.heap.size with hlt | hge
  · exact hlt
  · rw [Array.getElem?_eq_none hge] at h; cases h

section blk
variable {w w' : World} {b : Nat} {t : TypeId} {cs : Array Value}
theorem Blk.lt (h : Blk w b t cs) : b < w.heap.size := some_lt h
theorem Blk.cell (h : Blk w b t cs) (i : Nat) : w.cell? ⟨b, i, none⟩ = cs[i]? := cell_of_row w b i cs t (0, 0) h
theorem Blk.cellS (h : Blk w b t cs) {i : Nat} {v : Value} (hi : cs[i]? = some v) : w.cell? ⟨b, i, none⟩ = some v := (h.cell i).trans hi
theorem Blk.frozen (h : Blk w b t cs) (i : Nat) : w.frozen? ⟨b, i, none⟩ = false := by
  unfold Blk at h; simp [World.frozen?, h]
theorem Blk.new (w : World) (t : TypeId) (cs : Array Value) : Blk (w.alloc (.cells cs t)) w.heap.size t cs := heap_alloc_new w _
theorem Blk.drew (h : Blk w b t cs) : Blk w.drew b t cs := h
theorem Blk.drewN (h : Blk w b t cs) (n : Nat) : Blk (w.drewN n) b t cs := h
theorem Blk.alloc (h : Blk w b t cs) (o : Obj) : Blk (w.alloc o) b t cs := (Below.heap_alloc w o b h.lt).trans h
theorem Blk.set (h : Blk w b t cs) (i : Nat) (u : Value) : Blk (w.setCell ⟨b, i, none⟩ u) b t (cs.setIfInBounds i u) := by
  unfold Blk at h ⊢
  simp [World.setCell, Array.getElem?_modify, h]
theorem Blk.far (h : Blk w b t cs) {p : Addr} (hp : b ≠ p.block) (u : Value) : Blk (w.setCell p u) b t cs := (Below.heap_setCell w p u b hp).trans h
theorem Blk.mod {S : Nat → Prop} (h : Blk w b t cs) (hm : Mod S w w') (hS : ¬ S b) : Blk w' b t cs := (hm.block b h.lt hS).trans h
theorem Blk.inj {t' : TypeId} {cs' : Array Value} (h : Blk w b t cs) (h' : Blk w b t' cs') : t = t' ∧ cs = cs' := by
  unfold Blk at h h'; rw [h] at h'; injection h' with h'; injection h' with h1 h2; exact ⟨h2, h1⟩
theorem Blk.ne {b' : Nat} {t' : TypeId} {cs' : Array Value} (h : Blk w b t cs) (h' : Blk w b' t' cs') (hne : t ≠ t') : b ≠ b' := by
  rintro rfl; exact hne (h.inj h').1
end blk

section mod
variable {S S' : Nat → Prop} {w w1 w2 : World}
theorem Mod.refl (S : Nat → Prop) (w : World) : Mod S w w := ⟨rfl, rfl, rfl, Nat.le_refl _, fun _ _ _ => rfl⟩
theorem Mod.trans (h : Mod S w w1) (k : Mod S' w1 w2) (hS : ∀ b, b < w.heap.size → S' b → S b) : Mod S w w2 :=
  ⟨k.os.trans h.os, k.tape.trans h.tape, k.output.trans h.output, Nat.le_trans h.size k.size,
    fun b hb hn => (k.block b (Nat.lt_of_lt_of_le hb h.size) (fun hk => hn (hS b hb hk))).trans (h.block b hb hn)⟩
theorem Mod.mono (h : Mod S w w1) (hS : ∀ b, b < w.heap.size → S b → S' b) : Mod S' w w1 :=
  ⟨h.os, h.tape, h.output, h.size, fun b hb hn => h.block b hb (fun hs => hn (hS b hb hs))⟩
theorem Mod.drew (h : Mod S w w1) : Mod S w w1.drew := ⟨h.os, h.tape, h.output, h.size, h.block⟩
theorem Mod.drewN (h : Mod S w w1) (n : Nat) : Mod S w (w1.drewN n) := ⟨h.os, h.tape, h.output, h.size, h.block⟩
theorem Mod.alloc (h : Mod S w w1) (o : Obj) : Mod S w (w1.alloc o) :=
  ⟨h.os, h.tape, h.output, Nat.le_trans h.size (by simp), fun b hb hn => (Below.heap_alloc w1 o b (Nat.lt_of_lt_of_le hb h.size)).trans (h.block b hb hn)⟩
theorem Mod.set (h : Mod S w w1) {p : Addr} (hp : p.block < w.heap.size → S p.block) (u : Value) : Mod S w (w1.setCell p u) :=
  ⟨h.os, h.tape, h.output, by simpa [World.setCell] using h.size, fun b hb hn =>
    (Below.heap_setCell w1 p u b (fun e => by subst e; exact hn (hp hb))).trans (h.block b hb hn)⟩
theorem Mod.cell (h : Mod S w w1) {a : Addr} (hb : a.block < w.heap.size) (hn : ¬ S a.block) : w1.cell? a = w.cell? a := World.cell?_of_block (h.block _ hb hn)
theorem Mod.frozen (h : Mod S w w1) {a : Addr} (hb : a.block < w.heap.size) (hn : ¬ S a.block) : w1.frozen? a = w.frozen? a := World.frozen?_of_block (h.block _ hb hn)
theorem Mod.below (h : Mod S w w1) {B : Nat} (hB : B ≤ w.heap.size) (hS : ∀ b, b < B → ¬ S b) : Below B w w1 :=
  ⟨h.os, h.tape, h.output, h.size, fun k hk => h.block k (by omega) (hS k hk)⟩
theorem Mod.of_below {B : Nat} (h : Below B w w1) : Mod (fun b => B ≤ b) w w1 :=
  ⟨h.os, h.tape, h.output, h.size, fun k _ hn => h.block k (by omega)⟩
theorem Mod.of_below_all (h : Below w.heap.size w w1) : Mod (fun _ => False) w w1 :=
  ⟨h.os, h.tape, h.output, h.size, fun k hk _ => h.block k hk⟩
theorem Mod.of_grown {row : Option Nat} (h : w.grownBy w1 row) : Mod (fun b => some b = row) w w1 :=
  ⟨h.os, h.tape, h.output, h.size, fun k hk hn => h.block k hk hn⟩
end mod

/-- The block that a slice lies in. -/
def sblk : Value → Option Nat
  | .slice (some a) _ _ => some a.block
  | _ => none

/-- A slice value that reads as the cells xs (sz cells an element): n elements; where it has any room it lies in an unfrozen block of type t that holds all its room. -/
def Sl (w : World) (t : TypeId) (sz : Nat) (v : Value) (n : Nat) (xs : List Value) : Prop :=
  xs.length = n * sz ∧ ∃ A cap, v = .slice A n cap ∧ n ≤ cap ∧ cap ≤ maxLen ∧
    (A = none → cap = 0) ∧ ∀ a, A = some a → ∃ cs, a.spot = none ∧ Blk w a.block t cs ∧ a.off + cap * sz ≤ cs.size ∧ (cs.toList.drop a.off).take (n * sz) = xs

section sl
variable {w w' : World} {t : TypeId} {sz n : Nat} {v : Value} {xs : List Value}
theorem Sl.nil (w : World) (t : TypeId) (sz : Nat) : Sl w t sz (.slice none 0 0) 0 [] :=
  ⟨by simp, none, 0, rfl, Nat.le_refl _, by simp [maxLen], fun _ => rfl, fun a h => by cases h⟩
theorem Sl.len (h : Sl w t sz v n xs) : xs.length = n * sz := h.1
theorem Sl.of_blk (h : Sl w t sz v n xs) (hb : ∀ b, sblk v = some b → w'.heap[b]? = w.heap[b]?) : Sl w' t sz v n xs := by
  obtain ⟨h1, A, cap, rfl, h2, h3, h4, h5⟩ := h
  refine ⟨h1, A, cap, rfl, h2, h3, h4, fun a ha => ?_⟩
  obtain ⟨cs, c1, c2, c3, c4⟩ := h5 a ha
  subst ha
  exact ⟨cs, c1, (hb _ rfl).trans c2, c3, c4⟩
theorem Sl.lt (h : Sl w t sz v n xs) {b : Nat} (hb : sblk v = some b) : b < w.heap.size ∧ ∃ cs, Blk w b t cs := by
  obtain ⟨h1, A, cap, rfl, h2, h3, h4, h5⟩ := h
  cases A with
  | none => simp [sblk] at hb
  | some a =>
    simp [sblk] at hb; subst hb
    obtain ⟨cs, c1, c2, c3, c4⟩ := h5 a rfl
    exact ⟨c2.lt, cs, c2⟩
theorem Sl.mod {S : Nat → Prop} (h : Sl w t sz v n xs) (hm : Mod S w w') (hS : ∀ b, sblk v = some b → ¬ S b) : Sl w' t sz v n xs :=
  h.of_blk fun b hb => hm.block b (h.lt hb).1 (hS b hb)
theorem Sl.drew (h : Sl w t sz v n xs) : Sl w.drew t sz v n xs := h
theorem Sl.drewN (h : Sl w t sz v n xs) (k : Nat) : Sl (w.drewN k) t sz v n xs := h
theorem Sl.alloc (h : Sl w t sz v n xs) (o : Obj) : Sl (w.alloc o) t sz v n xs := h.of_blk fun _ hb => Below.heap_alloc w o _ (h.lt hb).1
theorem Sl.far (h : Sl w t sz v n xs) {p : Addr} (hp : sblk v ≠ some p.block) (u : Value) : Sl (w.setCell p u) t sz v n xs :=
  h.of_blk fun b hb => Below.heap_setCell w p u b (fun e => hp (by rw [hb, e]))
theorem Sl.ne (h : Sl w t sz v n xs) {b : Nat} {t' : TypeId} {cs : Array Value} (hb : Blk w b t' cs) (hne : t ≠ t') : sblk v ≠ some b := by
  intro e
  obtain ⟨_, cs', h'⟩ := h.lt e
  exact hne (h'.inj hb).1
/-- The shape, for a walk. -/
theorem Sl.form (h : Sl w t sz v n xs) : ∃ A cap, v = .slice A n cap ∧ n ≤ cap ∧ cap ≤ maxLen := by
  obtain ⟨h1, A, cap, rfl, h2, h3, _⟩ := h; exact ⟨A, cap, rfl, h2, h3⟩
/-- With elements: the address, and each cell. -/
theorem Sl.at (h : Sl w t sz v n xs) (hn : 0 < n) : ∃ b off cap, v = .slice (some ⟨b, off, none⟩) n cap ∧ n ≤ cap ∧ cap ≤ maxLen ∧ b < w.heap.size ∧
    (∀ j u, xs[j]? = some u → w.cell? ⟨b, off + j, none⟩ = some u) ∧ (∀ j, w.frozen? ⟨b, j, none⟩ = false) ∧ (∃ cs, Blk w b t cs ∧ off + cap * sz ≤ cs.size ∧ (cs.toList.drop off).take (n * sz) = xs) := by
  obtain ⟨h1, A, cap, rfl, h2, h3, h4, h5⟩ := h
  cases A with
  | none => have := h4 rfl; omega
  | some a =>
    obtain ⟨cs, c1, c2, c3, c4⟩ := h5 a rfl
    obtain ⟨b, off, sp⟩ := a
    simp at c1 c2 c3 c4; subst c1
    refine ⟨b, off, cap, rfl, h2, h3, c2.lt, fun j u hj => ?_, fun j => c2.frozen j, cs, c2, c3, c4⟩
    rw [c2.cell]
    rw [← c4, List.getElem?_take] at hj
    split at hj
    · rw [List.getElem?_drop] at hj; simpa using hj
    · cases hj
end sl
end Go.Proofs.YtlcjadgaommfmaaDoor
