/- Words on memory: a block that is known whole, what a step may have changed, a slice that reads as a list of cells. No program is named here. · append onto a slice that reads as a list of cells: the run of the builtin, in one law for both arms. No program is named here. · From a walk that leaves old memory alone to a row's post: every argument reads as it did. And slices of structs of two fields, opened. · Rows of cells (pairs of integers) as functions, in an own block. No program is named here. · A list of cells as an argument: what a row's precondition says of it. · append onto a slice that reads as a list, for the walk: in a plain region, and in a region that draws its order. No program is named here. · First walks: spot. · arena.numbers: its methods, the walks. · Which method of arena.numbers an interface call runs. · container/heap over arena.numbers: what is pushed and popped, as a multiset. · container/heap.Push and Pop over a field of numbers. · An arena in memory. · The arena's index: map[key]int. · An arena in memory: what it is, what may be read, what a step leaves alone. · The arena's functions that read alone: owns, Level, Count, Live. · An entry's mask is written; lose, Limit, Mark. · arena: Limit, Mark, Undo, Level. -/
import Derived.WalkKit
import Derived.WalkSpells
import Derived.WalkLawsBesides
import Derived.Lib.Hide
import Derived.ArgAppend
import Derived.Deep.OwnRows
import Derived.Deep.Draws
import Derived.Laws.Rows
import Derived.OwnWalk
import Derived.Maps.AppendAt
import Derived.RegionTactic
import Derived.Test.YtgdijlpkbbfedaaRows
import Derived.ProofKit
import Derived.Deep.Slices
import Derived.Deep.Fields
import Derived.Carry
import Derived.SizedLaws
import Derived.Deep.RegionLaw
import Derived.Handy
import Derived.Deep.RegionHeld3
import Derived.Deep.DeepCutAuto
import Derived.BigQuiet
import Derived.DeepKeys4
import Derived.Maps.OwnSet
import Derived.Laws.BitsAllLaws

namespace Go.Proofs.Ytgdijlpkbbfedaa
open Go.RowKit

/-- Block b is just the cells cs of type t, none frozen. -/
def Blk (w : World) (b : Nat) (t : TypeId) (cs : Array Value) : Prop := w.heap[b]? = some (.cells cs t (0, 0))

/-- From w to w' only new blocks, and old blocks for which S holds, may differ. -/
structure Mod (S : Nat → Prop) (w w' : World) : Prop where
  os : w'.os = w.os
  tape : w'.tape = w.tape
  output : w'.output = w.output
  size : w.heap.size ≤ w'.heap.size
  block : ∀ k, k < w.heap.size → ¬ S k → w'.heap[k]? = w.heap[k]?

theorem some_lt {w : World} {b : Nat} {o : Obj} (h : w.heap[b]? = some o) : b < w.heap.size := by
  rcases Nat.lt_or_ge b w.heap.size with hlt | hge
  · exact hlt
  · rw [Array.getElem?_eq_none hge] at h; cases h

section blk
variable {w w' : World} {b : Nat} {t : TypeId} {cs : Array Value}
theorem Blk.lt (h : Blk w b t cs) : b < w.heap.size := some_lt h
theorem Blk.cell (h : Blk w b t cs) (i : Nat) : w.cell? ⟨b, i, none⟩ = cs[i]? := cell_of_row w b i cs t (0, 0) h
theorem Blk.cellS (h : Blk w b t cs) {i : Nat} {v : Value} (hi : cs[i]? = some v) : w.cell? ⟨b, i, none⟩ = some v := (h.cell i).trans hi
theorem Blk.frozen (h : Blk w b t cs) (i : Nat) : w.frozen? ⟨b, i, none⟩ = false := by
  unfold Blk at h; simp [World.frozen?, h]
theorem Blk.new (w : World) (t : TypeId) (cs : Array Value) : Blk (w.alloc (.cells cs t)) w.heap.size t cs := heap_alloc_new w _
theorem Blk.drew (h : Blk w b t cs) : Blk w.drew b t cs := h
theorem Blk.drewN (h : Blk w b t cs) (n : Nat) : Blk (w.drewN n) b t cs := h
theorem Blk.alloc (h : Blk w b t cs) (o : Obj) : Blk (w.alloc o) b t cs := (Below.heap_alloc w o b h.lt).trans h
theorem Blk.set (h : Blk w b t cs) (i : Nat) (u : Value) : Blk (w.setCell ⟨b, i, none⟩ u) b t (cs.setIfInBounds i u) := by
  unfold Blk at h ⊢
  simp [World.setCell, Array.getElem?_modify, h]
theorem Blk.far (h : Blk w b t cs) {p : Addr} (hp : b ≠ p.block) (u : Value) : Blk (w.setCell p u) b t cs := (Below.heap_setCell w p u b hp).trans h
theorem Blk.mod {S : Nat → Prop} (h : Blk w b t cs) (hm : Mod S w w') (hS : ¬ S b) : Blk w' b t cs := (hm.block b h.lt hS).trans h
theorem Blk.inj {t' : TypeId} {cs' : Array Value} (h : Blk w b t cs) (h' : Blk w b t' cs') : t = t' ∧ cs = cs' := by
  unfold Blk at h h'; rw [h] at h'; injection h' with h'; injection h' with h1 h2; exact ⟨h2, h1⟩
theorem Blk.ne {b' : Nat} {t' : TypeId} {cs' : Array Value} (h : Blk w b t cs) (h' : Blk w b' t' cs') (hne : t ≠ t') : b ≠ b' := by
  rintro rfl; exact hne (h.inj h').1
end blk

section mod
variable {S S' : Nat → Prop} {w w1 w2 : World}
theorem Mod.refl (S : Nat → Prop) (w : World) : Mod S w w := ⟨rfl, rfl, rfl, Nat.le_refl _, fun _ _ _ => rfl⟩
theorem Mod.trans (h : Mod S w w1) (k : Mod S' w1 w2) (hS : ∀ b, b < w.heap.size → S' b → S b) : Mod S w w2 :=
  ⟨k.os.trans h.os, k.tape.trans h.tape, k.output.trans h.output, Nat.le_trans h.size k.size,
    fun b hb hn => (k.block b (Nat.lt_of_lt_of_le hb h.size) (fun hk => hn (hS b hb hk))).trans (h.block b hb hn)⟩
theorem Mod.mono (h : Mod S w w1) (hS : ∀ b, b < w.heap.size → S b → S' b) : Mod S' w w1 :=
  ⟨h.os, h.tape, h.output, h.size, fun b hb hn => h.block b hb (fun hs => hn (hS b hb hs))⟩
theorem Mod.drew (h : Mod S w w1) : Mod S w w1.drew := ⟨h.os, h.tape, h.output, h.size, h.block⟩
theorem Mod.drewN (h : Mod S w w1) (n : Nat) : Mod S w (w1.drewN n) := ⟨h.os, h.tape, h.output, h.size, h.block⟩
theorem Mod.alloc (h : Mod S w w1) (o : Obj) : Mod S w (w1.alloc o) :=
  ⟨h.os, h.tape, h.output, Nat.le_trans h.size (by simp), fun b hb hn => (Below.heap_alloc w1 o b (Nat.lt_of_lt_of_le hb h.size)).trans (h.block b hb hn)⟩
theorem Mod.set (h : Mod S w w1) {p : Addr} (hp : p.block < w.heap.size → S p.block) (u : Value) : Mod S w (w1.setCell p u) :=
  ⟨h.os, h.tape, h.output, by simpa [World.setCell] using h.size, fun b hb hn =>
    (Below.heap_setCell w1 p u b (fun e => by subst e; exact hn (hp hb))).trans (h.block b hb hn)⟩
theorem Mod.cell (h : Mod S w w1) {a : Addr} (hb : a.block < w.heap.size) (hn : ¬ S a.block) : w1.cell? a = w.cell? a := World.cell?_of_block (h.block _ hb hn)
theorem Mod.frozen (h : Mod S w w1) {a : Addr} (hb : a.block < w.heap.size) (hn : ¬ S a.block) : w1.frozen? a = w.frozen? a := World.frozen?_of_block (h.block _ hb hn)
theorem Mod.below (h : Mod S w w1) {B : Nat} (hB : B ≤ w.heap.size) (hS : ∀ b, b < B → ¬ S b) : Below B w w1 :=
  ⟨h.os, h.tape, h.output, h.size, fun k hk => h.block k (by omega) (hS k hk)⟩
theorem Mod.of_below {B : Nat} (h : Below B w w1) : Mod (fun b => B ≤ b) w w1 :=
  ⟨h.os, h.tape, h.output, h.size, fun k _ hn => h.block k (by omega)⟩
theorem Mod.of_below_all (h : Below w.heap.size w w1) : Mod (fun _ => False) w w1 :=
  ⟨h.os, h.tape, h.output, h.size, fun k hk _ => h.block k hk⟩
theorem Mod.of_grown {row : Option Nat} (h : w.grownBy w1 row) : Mod (fun b => some b = row) w w1 :=
  ⟨h.os, h.tape, h.output, h.size, fun k hk hn => h.block k hk hn⟩
end mod

/-- The block that a slice lies in. -/
def sblk : Value → Option Nat
  | .slice (some a) _ _ => some a.block
  | _ => none

/-- A slice value that reads as the cells xs (sz cells an element): n elements; where it has any room it lies in an unfrozen block of type t that holds all its room. -/
def Sl (w : World) (t : TypeId) (sz : Nat) (v : Value) (n : Nat) (xs : List Value) : Prop :=
  xs.length = n * sz ∧ ∃ A cap, v = .slice A n cap ∧ n ≤ cap ∧ cap ≤ maxLen ∧
    (A = none → cap = 0) ∧ ∀ a, A = some a → ∃ cs, a.spot = none ∧ Blk w a.block t cs ∧ a.off + cap * sz ≤ cs.size ∧ (cs.toList.drop a.off).take (n * sz) = xs

section sl
variable {w w' : World} {t : TypeId} {sz n : Nat} {v : Value} {xs : List Value}
theorem Sl.nil (w : World) (t : TypeId) (sz : Nat) : Sl w t sz (.slice none 0 0) 0 [] :=
  ⟨by simp, none, 0, rfl, Nat.le_refl _, by simp [maxLen], fun _ => rfl, fun a h => by cases h⟩
theorem Sl.len (h : Sl w t sz v n xs) : xs.length = n * sz := h.1
theorem Sl.of_blk (h : Sl w t sz v n xs) (hb : ∀ b, sblk v = some b → w'.heap[b]? = w.heap[b]?) : Sl w' t sz v n xs := by
  obtain ⟨h1, A, cap, rfl, h2, h3, h4, h5⟩ := h
  refine ⟨h1, A, cap, rfl, h2, h3, h4, fun a ha => ?_⟩
  obtain ⟨cs, c1, c2, c3, c4⟩ := h5 a ha
  subst ha
  exact ⟨cs, c1, (hb _ rfl).trans c2, c3, c4⟩
theorem Sl.lt (h : Sl w t sz v n xs) {b : Nat} (hb : sblk v = some b) : b < w.heap.size ∧ ∃ cs, Blk w b t cs := by
  obtain ⟨h1, A, cap, rfl, h2, h3, h4, h5⟩ := h
  cases A with
  | none => simp [sblk] at hb
  | some a =>
    simp [sblk] at hb; subst hb
    obtain ⟨cs, c1, c2, c3, c4⟩ := h5 a rfl
    exact ⟨c2.lt, cs, c2⟩
theorem Sl.mod {S : Nat → Prop} (h : Sl w t sz v n xs) (hm : Mod S w w') (hS : ∀ b, sblk v = some b → ¬ S b) : Sl w' t sz v n xs :=
  h.of_blk fun b hb => hm.block b (h.lt hb).1 (hS b hb)
theorem Sl.drew (h : Sl w t sz v n xs) : Sl w.drew t sz v n xs := h
theorem Sl.drewN (h : Sl w t sz v n xs) (k : Nat) : Sl (w.drewN k) t sz v n xs := h
theorem Sl.alloc (h : Sl w t sz v n xs) (o : Obj) : Sl (w.alloc o) t sz v n xs := h.of_blk fun _ hb => Below.heap_alloc w o _ (h.lt hb).1
theorem Sl.far (h : Sl w t sz v n xs) {p : Addr} (hp : sblk v ≠ some p.block) (u : Value) : Sl (w.setCell p u) t sz v n xs :=
  h.of_blk fun b hb => Below.heap_setCell w p u b (fun e => hp (by rw [hb, e]))
theorem Sl.ne (h : Sl w t sz v n xs) {b : Nat} {t' : TypeId} {cs : Array Value} (hb : Blk w b t' cs) (hne : t ≠ t') : sblk v ≠ some b := by
  intro e
  obtain ⟨_, cs', h'⟩ := h.lt e
  exact hne (h'.inj hb).1
/-- The shape, for a walk. -/
theorem Sl.form (h : Sl w t sz v n xs) : ∃ A cap, v = .slice A n cap ∧ n ≤ cap ∧ cap ≤ maxLen := by
  obtain ⟨h1, A, cap, rfl, h2, h3, _⟩ := h; exact ⟨A, cap, rfl, h2, h3⟩
/-- With elements: the address, and each cell. -/
theorem Sl.at (h : Sl w t sz v n xs) (hn : 0 < n) : ∃ b off cap, v = .slice (some ⟨b, off, none⟩) n cap ∧ n ≤ cap ∧ cap ≤ maxLen ∧ b < w.heap.size ∧
    (∀ j u, xs[j]? = some u → w.cell? ⟨b, off + j, none⟩ = some u) ∧ (∀ j, w.frozen? ⟨b, j, none⟩ = false) ∧ (∃ cs, Blk w b t cs ∧ off + cap * sz ≤ cs.size ∧ (cs.toList.drop off).take (n * sz) = xs) := by
  obtain ⟨h1, A, cap, rfl, h2, h3, h4, h5⟩ := h
  cases A with
  | none => have := h4 rfl; omega
  | some a =>
    obtain ⟨cs, c1, c2, c3, c4⟩ := h5 a rfl
    obtain ⟨b, off, sp⟩ := a
    simp at c1 c2 c3 c4; subst c1
    refine ⟨b, off, cap, rfl, h2, h3, c2.lt, fun j u hj => ?_, fun j => c2.frozen j, cs, c2, c3, c4⟩
    rw [c2.cell]
    rw [← c4, List.getElem?_take] at hj
    split at hj
    · rw [List.getElem?_drop] at hj; simpa using hj
    · cases hj
end sl
end Go.Proofs.Ytgdijlpkbbfedaa

namespace Go.Proofs.Ytgdijlpkbbfedaa
open Go.RowKit

/-- A slice value that can be read: n elements, whose cells are xs; with elements its block is below B. -/
def Rd (w : World) (B : Nat) (sz : Nat) (v : Value) (n : Nat) (xs : List Value) : Prop :=
  xs.length = n * sz ∧ ∃ A cap, v = .slice A n cap ∧ n ≤ cap ∧ cap ≤ maxLen ∧
    (0 < n → ∃ b off, A = some ⟨b, off, none⟩ ∧ b < B ∧ ∀ j u, xs[j]? = some u → w.cell? ⟨b, off + j, none⟩ = some u)

section rd
variable {w w' : World} {B sz n : Nat} {v : Value} {xs : List Value} {t : TypeId}
theorem Sl.rd (h : Sl w t sz v n xs) : Rd w w.heap.size sz v n xs := by
  obtain ⟨A, cap, rfl, h2, h3⟩ := h.form
  refine ⟨h.1, A, cap, rfl, h2, h3, fun hn => ?_⟩
  obtain ⟨b, off, cap', he, _, _, hlt, hc, _⟩ := h.at hn
  injection he with e1 _ _
  exact ⟨b, off, e1, hlt, hc⟩
theorem Rd.keep (h : Rd w B sz v n xs) (hk : ∀ b, b < B → w'.heap[b]? = w.heap[b]?) : Rd w' B sz v n xs := by
  obtain ⟨h1, A, cap, rfl, h2, h3, h4⟩ := h
  refine ⟨h1, A, cap, rfl, h2, h3, fun hn => ?_⟩
  obtain ⟨b, off, e, hb, hc⟩ := h4 hn
  exact ⟨b, off, e, hb, fun j u hj => (World.cell?_of_block (hk b hb)).trans (hc j u hj)⟩
theorem Rd.below (h : Rd w B sz v n xs) (hb : Below B w w') : Rd w' B sz v n xs := h.keep hb.block
theorem Rd.mod {S : Nat → Prop} (h : Rd w B sz v n xs) (hm : Mod S w w') (hB : B ≤ w.heap.size) (hS : ∀ b, b < B → ¬ S b) : Rd w' B sz v n xs :=
  h.keep fun b hb => hm.block b (by omega) (hS b hb)
theorem Rd.more {B' : Nat} (h : Rd w B sz v n xs) (hB : B ≤ B') : Rd w B' sz v n xs := by
  obtain ⟨h1, A, cap, rfl, h2, h3, h4⟩ := h
  refine ⟨h1, A, cap, rfl, h2, h3, fun hn => ?_⟩
  obtain ⟨b, off, e, hb, hc⟩ := h4 hn
  exact ⟨b, off, e, by omega, hc⟩
theorem Rd.form (h : Rd w B sz v n xs) : ∃ A cap, v = .slice A n cap ∧ n ≤ cap ∧ cap ≤ maxLen := by
  obtain ⟨h1, A, cap, rfl, h2, h3, _⟩ := h; exact ⟨A, cap, rfl, h2, h3⟩
theorem Rd.at (h : Rd w B sz v n xs) (hn : 0 < n) : ∃ b off cap, v = .slice (some ⟨b, off, none⟩) n cap ∧ n ≤ cap ∧ cap ≤ maxLen ∧ b < B ∧
    ∀ j u, xs[j]? = some u → w.cell? ⟨b, off + j, none⟩ = some u := by
  obtain ⟨h1, A, cap, rfl, h2, h3, h4⟩ := h
  obtain ⟨b, off, rfl, hb, hc⟩ := h4 hn
  exact ⟨b, off, cap, rfl, h2, h3, hb, hc⟩
theorem Rd.fresh (w : World) (t : TypeId) (cs : Array Value) (sz n : Nat) (hl : cs.size = n * sz) (hm : n ≤ maxLen) :
    Rd (w.alloc (.cells cs t)) (w.heap.size + 1) sz (.slice (some ⟨w.heap.size, 0, none⟩) n n) n cs.toList :=
  ⟨by simpa using hl, _, _, rfl, Nat.le_refl _, hm, fun _ => ⟨_, _, rfl, by omega, fun j u hj => by rw [(Blk.new w t cs).cell]; simpa using hj⟩⟩
end rd

theorem heap_setCells (b : Nat) (vs : List Value) : ∀ (o : Nat) (w : World) (t : TypeId) (cs : Array Value), Blk w b t cs → o + vs.length ≤ cs.size →
    ∃ cs', Blk (w.setCells b o vs) b t cs' ∧ cs'.toList = cs.toList.take o ++ vs ++ cs.toList.drop (o + vs.length) := by
  induction vs with
  | nil => intro o w t cs h _; exact ⟨cs, h, by simp⟩
  | cons v r ih =>
    intro o w t cs h hl
    simp at hl
    obtain ⟨cs', h1, h2⟩ := ih (o + 1) _ t _ (h.set o v) (by simp; omega)
    refine ⟨cs', h1, ?_⟩
    rw [h2]
    simp only [Array.toList_setIfInBounds]
    have ho : o < cs.toList.length := by simp; omega
    rw [List.take_set, List.drop_set]
    rw [if_pos (by omega)]
    have : (cs.toList.take (o + 1)).set o v = cs.toList.take o ++ [v] := by
      rw [List.take_succ_eq_append_getElem ho]
      rw [List.set_append_right _ _ (by simp; omega)]
      have hmin : min o cs.size = o := Nat.min_eq_left (by simp at ho; omega)
      simp [hmin]
    rw [this]
    simp [Nat.add_assoc, Nat.add_comm 1]

theorem mod_setCells (b : Nat) (vs : List Value) : ∀ (o : Nat) (w w0 : World) (S : Nat → Prop), Mod S w0 w → (b < w0.heap.size → S b) → Mod S w0 (w.setCells b o vs) := by
  induction vs with
  | nil => intro o w w0 S h _; exact h
  | cons v r ih => intro o w w0 S h hb; exact ih (o + 1) _ w0 S (h.set hb v) hb

section app
variable {P : Program} (w : World)

/-- append of what can be read onto what reads as a list, both arms, nil too. -/
theorem run_append_sl (t ty e : TypeId) (i : TypeInfo) (z : Value) (sz bytes : Nat) (ht : P.underlying t = some (.slice e)) (hi : P.info? e = some i) (hz : i.zero = some z)
    (hsize : i.size = sz) (hby : i.bytes = bytes) (hzs : z.cells.size = sz) (hsz : 0 < sz)
    {v : Value} {n : Nat} {xs : List Value} (hv : Sl w e sz v n xs)
    {B m : Nat} {x : Value} {news : List Value} (hx : Rd w B sz x m news) (h1 : ∀ u ∈ news, u.oneCell' = true)
    (hbytes : (n + m) * bytes ≤ 140737488355328) (h63 : n + m ≤ maxLen) :
    ∃ v' w', (Builtin.append_ #[t, t] ty #[v, x]).run P w = .ok v' w' ∧ Sl w' e sz v' (n + m) (xs ++ news) ∧ Mod (fun b => sblk v = some b) w w' ∧
      (sblk v' = sblk v ∨ sblk v' = some w.heap.size ∧ w.heap.size < w'.heap.size) := by
  obtain ⟨hl, A, cap, rfl, hnc, hcm, hA, hc⟩ := hv
  obtain ⟨hm1, A2, cap2, rfl, hmc, hcm2, hx4⟩ := hx
  rcases Nat.eq_zero_or_pos m with hm0 | hmpos
  · subst hm0
    have hnil : news = [] := List.eq_nil_of_length_eq_zero (by simpa using hm1)
    subst hnil
    refine ⟨.slice A n cap, w, ?_, ⟨by simpa using hl, A, cap, rfl, hnc, hcm, hA, by simpa using hc⟩, Mod.refl _ _, .inl rfl⟩
    cases A with
    | none =>
      have := hA rfl; subst this
      have : n = 0 := by omega
      subst this
      cases A2 with
      | none => simp [Builtin.append_, run_underlying ht, sizeOf, typeInfo, hi, Builtin.lenOf, Builtin.firstCells]
      | some a2 =>
        have hf := run_firstCells_some (P := P) w i.size 0 a2 0 cap2 [] (by simp) (by intro j u hj; simp at hj)
        simp [Builtin.append_, run_underlying ht, sizeOf, typeInfo, hi, Builtin.lenOf, hf]
    | some a =>
      cases A2 with
      | none => simp [Builtin.append_, run_underlying ht, sizeOf, typeInfo, hi, Builtin.lenOf, Builtin.firstCells, hnc, storeCells]
      | some a2 =>
        have hf := run_firstCells_some (P := P) w i.size 0 a2 0 cap2 [] (by simp) (by intro j u hj; simp at hj)
        simp [Builtin.append_, run_underlying ht, sizeOf, typeInfo, hi, Builtin.lenOf, hf, hnc, storeCells]
  · obtain ⟨b2, off2, rfl, hb2, hc2⟩ := hx4 hmpos
    have hnews : ∀ j u, news[j]? = some u → w.cell? ((⟨b2, off2, none⟩ : Addr).add j) = some u := by
      intro j u hj; rw [Addr.add_lit]; exact hc2 j u hj
    by_cases hroom : n + m ≤ cap
    · cases A with
      | none => have := hA rfl; omega
      | some a =>
        obtain ⟨cs, c1, c2, c3, c4⟩ := hc a rfl
        obtain ⟨b, off, sp⟩ := a
        simp at c1 c2 c3 c4; subst c1
        have hbig : off + n * sz + news.length ≤ cs.size := by
          have : (n + m) * sz ≤ cap * sz := Nat.mul_le_mul_right _ hroom
          rw [Nat.add_mul] at this; omega
        have hrun := run_append_room_cells (P := P) w t ty e i ht hi b off n cap ⟨b2, off2, none⟩ m cap2 news (by rw [hsize]; exact hm1) hnews h1 hroom
          (fun j hj => by rw [hsize, c2.cell, Array.getElem?_eq_getElem (by omega)]; rfl) (fun j hj => c2.frozen _)
        obtain ⟨cs', d1, d2⟩ := heap_setCells b news (off + n * sz) w e cs c2 hbig
        have hsz' : cs'.size = cs.size := by
          have := congrArg List.length d2
          simp at this; omega
        refine ⟨_, _, hrun, ⟨by rw [List.length_append, hl, hm1, Nat.add_mul], _, _, rfl, hroom, hcm, (fun h => nomatch h), fun a ha => ?_⟩, mod_setCells b news _ w w _ (Mod.refl _ _) (fun _ => rfl), .inl rfl⟩
        injection ha with ha; subst ha
        refine ⟨cs', rfl, by rw [hsize]; exact d1, by rw [hsz']; exact c3, ?_⟩
        have hlo : off + n * sz ≤ cs.toList.length := by simp; omega
        rw [d2, ← c4]
        simp only [List.append_assoc]
        rw [List.drop_append_of_le_length (by rw [List.length_take]; omega)]
        rw [List.drop_take, Nat.add_sub_cancel_left]
        have hlen : ((cs.toList.drop off).take (n * sz)).length = n * sz := by simp; omega
        rw [List.take_append, hlen, List.take_of_length_le (by rw [hlen, Nat.add_mul]; omega)]
        congr 1
        rw [Nat.add_mul, Nat.add_sub_cancel_left, List.take_append_of_le_length (by omega), List.take_of_length_le (by omega)]
    · have hgrow : cap < n + m := by omega
      subst hsize; subst hby
      have h63' : n + m ≤ 9223372036854775807 := by simp only [maxLen] at h63; omega
      have key : ∃ a : Option Addr, A = a ∧ ((Builtin.append_ #[t, t] ty #[.slice A n cap, .slice (some ⟨b2, off2, none⟩) m cap2]).run P w =
          .ok (.slice (some ⟨w.heap.size, 0, none⟩) (n + m) (grownCap w (n + m) cap e)) (w.drew.alloc (.cells (xs.toArray ++ news.toArray ++ Builtin.zeroCells z.cells (grownCap w (n + m) cap e - (n + m))) e))) := by
        refine ⟨A, rfl, ?_⟩
        cases A with
        | none =>
          have hc0 := hA rfl; subst hc0
          have hn0 : n = 0 := by omega
          subst hn0
          have hxs : xs = [] := List.eq_nil_of_length_eq_zero (by simpa using hl)
          subst hxs
          have hr := run_append_nil (P := P) w t ty e i z ht hi hz ⟨b2, off2, none⟩ m cap2 news hm1 hnews (by omega) (by omega) (by have hb := hbytes; simp only [Nat.zero_add] at hb; omega)
          simpa using hr
        | some a =>
          obtain ⟨cs, c1, c2, c3, c4⟩ := hc a rfl
          obtain ⟨b, off, sp⟩ := a
          simp at c1 c2 c3 c4; subst c1
          exact run_append_grow (P := P) w t ty e i z ht hi hz ⟨b, off, none⟩ n cap xs hl (fun j u hj => by
            rw [Addr.add_lit, c2.cell]
            rw [← c4, List.getElem?_take] at hj
            split at hj
            · rw [List.getElem?_drop] at hj; simpa using hj
            · cases hj) ⟨b2, off2, none⟩ m cap2 news hm1 hnews hgrow (by omega) (growslice_fits hgrow hbytes)
      obtain ⟨_, _, hrun⟩ := key
      refine ⟨_, _, hrun, ⟨by rw [List.length_append, hl, hm1, Nat.add_mul], _, _, rfl, grownCap_ge w (n + m) cap e, grownCap_le_maxLen w (n + m) cap e h63, (fun h => nomatch h), fun a ha => ?_⟩, ?_, .inr ⟨rfl, by simp⟩⟩
      · injection ha with ha; subst ha
        refine ⟨_, rfl, Blk.new _ _ _, ?_, ?_⟩
        · have hge := grownCap_ge w (n + m) cap e
          simp only [Array.size_append, List.size_toArray, size_zeroCells, hzs, hl, hm1, ← Nat.add_mul]
          rw [Nat.zero_add]; apply Nat.mul_le_mul_right; omega
        · simp only [Array.toList_append, List.append_assoc, List.drop_zero]
          rw [← List.append_assoc]
          rw [List.take_append_of_le_length (by simp [hl, hm1, Nat.add_mul])]
          rw [List.take_of_length_le (by simp [hl, hm1, Nat.add_mul])]
      · exact (Mod.refl _ w).drew.alloc _
end app
end Go.Proofs.Ytgdijlpkbbfedaa

namespace Go.Proofs.Ytgdijlpkbbfedaa
open Go.RowKit Go.ChangeShapes Go.WideShapes

section
variable {H : Type} {enc : TypeId × Value → H} {P : Program}

theorem trodAll_below (hl : laidOutB P = true) {W W' : World} (hb : Below W.heap.size W W') : ∀ (ts : List TypeId) (vs : List Value) (ds : List (DataW H)) (ps : List MemPlace),
    (∀ t ∈ ts, P.readableRec t = true ∧ t < P.types.size) → DataW.TrodAll enc P W 0 (fun _ => true) true ts vs ds ps → (∀ x ∈ ps, x.block < W.heap.size) →
    DataW.TrodAll enc P W' 0 (fun b => decide (b < W.heap.size)) true ts vs ds ps
  | [], [], [], _, _, h, _ => h
  | t :: ts, v :: vs, d :: ds, ps, ht, h, hlt => by
    obtain ⟨p, q, h1, h2, rfl⟩ := h
    obtain ⟨r1, r2⟩ := ht t (by simp)
    exact ⟨p, q, Below.trod hl r1 r2 h1 hb (fun x hx => hlt x (by simp [hx])), trodAll_below hl hb ts vs ds q (fun t ht' => ht t (by simp [ht'])) h2 (fun x hx => hlt x (by simp [hx])), rfl⟩

/-- A law that answers true and leaves old memory alone meets its row's post. -/
theorem law_post (hl : laidOutB P = true) {f : Func} {s : ChangeSpec} {W W' : World} {args : Array Value} {ds gs : List (DataW H)} {before : List MemPlace}
    (hts : ∀ t ∈ f.params.toList, P.readableRec t = true ∧ t < P.types.size) (hvars : s.vars = [])
    (hW : DataW.Whole enc P f.params.toList s.vars false W args.toList ds gs before) (hb : Below W.heap.size W W') {tb : TypeId} (hrt : f.resultTypes = #[tb]) (htb : P.underlying tb = some .bool)
    (hres : (s.fn H (ds ++ gs)).results = [.lit (.bool true)]) (hargs : (s.fn H (ds ++ gs)).args = ds) (hsv : (s.fn H (ds ++ gs)).vars = []) :
    s.post enc P f false true false false W args (.bool true) W' := by
  have hW' := hW
  obtain ⟨p, q, h1, h2, rfl, h4, h5⟩ := hW
  rw [hvars] at h2
  have hgs : gs = [] ∧ q = [] := by
    cases gs with
    | nil => exact ⟨rfl, h2⟩
    | cons g gs => exact h2.elim
  obtain ⟨rfl, rfl⟩ := hgs
  simp only [List.append_nil] at hres hargs hsv hW' ⊢
  have hlt : ∀ x ∈ p, x.block < W.heap.size := fun x hx => hW'.lt x hx
  refine ⟨ds, [], p, [], p, [], hW', ?_, ?_, ?_, hb.frame _, (fun h => by cases h)⟩
  · simp only [List.append_nil]
    rw [hres, hrt]
    exact trodAll_mk1 (shut_bool htb true)
  · simp only [List.append_nil]
    rw [hargs]
    exact trodAll_below hl hb _ _ _ _ hts h1 hlt
  · simp only [List.append_nil]
    rw [hsv, hvars]
    rfl

theorem open_two {w : World} {base : Nat} {spare : Nat → Bool} {held : Bool} {t e : TypeId} {f0 f1 : Field} {fuel : Nat} {cs : List Value} {x : DataW H × List MemPlace}
    (ht : P.underlying t = some (.slice e)) (he : P.underlying e = some (.struct #[f0, f1])) (o0 : f0.offset = 0) (o1 : f1.offset = 1) (k0 : P.cellsOf f0.type = 1) (k1 : P.cellsOf f1.type = 1) (hC : P.cellsOf e = 2)
    (h : DataW.trod enc P w base spare held fuel t cs = some x) :
    (cs = [.slice none 0 0]) ∨
    ∃ (a : Addr) (len cap : Nat), cs = [.slice (some a) len cap] ∧ len ≤ cap ∧ cap ≤ maxLen ∧ ∀ i, i < len → ∃ v0 v1 n y0 y1, w.cell? (a.add (i * 2)) = some v0 ∧ w.cell? ((a.add (i * 2)).add 1) = some v1 ∧
      DataW.trod enc P w base spare held n f0.type [v0] = some y0 ∧ DataW.trod enc P w base spare held n f1.type [v1] = some y1 := by
  rcases Go.Deep.open_slice ht h with h0 | ⟨a, len, cap, m, n, D, Pl, hcs, hb, hl, hm, hmm, hx, hi⟩
  · exact .inl h0.1
  · refine .inr ⟨a, len, cap, hcs, hl, hm, fun i hil => ?_⟩
    obtain ⟨cs', hc, ht'⟩ := hi i (by rw [hmm]; split <;> omega)
    rw [hC] at hc
    obtain ⟨_, hlen, hat⟩ := World.cells?_some hc
    match cs', hlen with
    | [v0, v1], _ =>
      obtain ⟨ys, n', _, hy, _, hyl, hf⟩ := DataW.trod_struct he ht'
      match ys, hyl with
      | [y0, y1], _ =>
        have g0 := hf 0 f0 rfl
        have g1 := hf 1 f1 rfl
        rw [o0, k0] at g0
        rw [o1, k1] at g1
        have c0 := hat 0 (by omega)
        have c1 := hat 1 (by omega)
        refine ⟨v0, v1, n', y0, y1, ?_, c1, g0, g1⟩
        simpa [Addr.add] using c0
end
end Go.Proofs.Ytgdijlpkbbfedaa

namespace Go.Proofs.Ytgdijlpkbbfedaa
open Go.RowKit

/-- n cells from place off of block b on, the block of type t: F. -/
def RowC (w : World) (t b off n : Nat) (F : Nat → Int × Int) : Prop :=
  ∃ cs, Blk w b t cs ∧ off + n * 2 ≤ cs.size ∧ ∀ i, i < n → cs[off + i * 2]? = some (.int .i64 (F i).1) ∧ cs[off + i * 2 + 1]? = some (.int .i64 (F i).2)

def flat (l : List (Int × Int)) : List Value := l.flatMap fun c => [.int .i64 c.1, .int .i64 c.2]
theorem flat_length (l : List (Int × Int)) : (flat l).length = l.length * 2 := by
  induction l with
  | nil => rfl
  | cons a r ih => simp only [flat, List.flatMap_cons, List.length_append, List.length_cons, List.length_nil] at ih ⊢; omega
theorem flat_append (l m : List (Int × Int)) : flat (l ++ m) = flat l ++ flat m := by simp [flat]
theorem flat_get (l : List (Int × Int)) : ∀ (i : Nat) (c : Int × Int), l[i]? = some c → (flat l)[i * 2]? = some (.int .i64 c.1) ∧ (flat l)[i * 2 + 1]? = some (.int .i64 c.2) := by
  induction l with
  | nil => intro i c h; simp at h
  | cons a r ih =>
    intro i c h
    match i, h with
    | 0, h => simp at h; subst h; simp [flat]
    | i + 1, h =>
      have := ih i c (by simpa using h)
      rw [show flat (a :: r) = [.int .i64 a.1, .int .i64 a.2] ++ flat r from rfl]
      rw [show (i + 1) * 2 = i * 2 + 2 by omega, List.getElem?_append_right (by simp), List.getElem?_append_right (by simp)]
      simpa using this
theorem flat_mem {l : List (Int × Int)} {u : Value} (h : u ∈ flat l) : ∃ n, u = .int .i64 n := by
  simp only [flat, List.mem_flatMap, List.mem_cons, List.not_mem_nil, or_false] at h
  obtain ⟨c, _, h | h⟩ := h
  · exact ⟨_, h⟩
  · exact ⟨_, h⟩
theorem flat_one {l : List (Int × Int)} : ∀ u ∈ flat l, u.oneCell' = true := fun u hu => by obtain ⟨n, rfl⟩ := flat_mem hu; rfl

section
variable {w w' : World} {t b off n : Nat} {F : Nat → Int × Int}
theorem RowC.cell1 (h : RowC w t b off n F) {i : Nat} (hi : i < n) : w.cell? ⟨b, off + i * 2, none⟩ = some (.int .i64 (F i).1) := by
  obtain ⟨cs, h1, _, h3⟩ := h; rw [h1.cell]; exact (h3 i hi).1
theorem RowC.cell2 (h : RowC w t b off n F) {i : Nat} (hi : i < n) : w.cell? ⟨b, off + i * 2 + 1, none⟩ = some (.int .i64 (F i).2) := by
  obtain ⟨cs, h1, _, h3⟩ := h; rw [h1.cell]; exact (h3 i hi).2
theorem RowC.frozen (h : RowC w t b off n F) (j : Nat) : w.frozen? ⟨b, j, none⟩ = false := by
  obtain ⟨cs, h1, _, _⟩ := h; exact h1.frozen j
theorem RowC.lt (h : RowC w t b off n F) : b < w.heap.size := by obtain ⟨cs, h1, _, _⟩ := h; exact h1.lt
theorem RowC.of_block (h : RowC w t b off n F) (e : w'.heap[b]? = w.heap[b]?) : RowC w' t b off n F := by
  obtain ⟨cs, h1, h2, h3⟩ := h; exact ⟨cs, e.trans h1, h2, h3⟩
theorem RowC.congr {G : Nat → Int × Int} (h : RowC w t b off n F) (e : ∀ i, i < n → F i = G i) : RowC w t b off n G := by
  obtain ⟨cs, h1, h2, h3⟩ := h; exact ⟨cs, h1, h2, fun i hi => by rw [← e i hi]; exact h3 i hi⟩
theorem RowC.drewN (h : RowC w t b off n F) (k : Nat) : RowC (w.drewN k) t b off n F := h
theorem RowC.alloc (h : RowC w t b off n F) (o : Obj) : RowC (w.alloc o) t b off n F := h.of_block (Below.heap_alloc w o b h.lt)
theorem RowC.far (h : RowC w t b off n F) {p : Addr} (hp : b ≠ p.block) (u : Value) : RowC (w.setCell p u) t b off n F := h.of_block (Below.heap_setCell w p u b hp)
theorem RowC.set (h : RowC w t b off n F) {i : Nat} (_hi : i < n) (x y : Int) :
    RowC ((w.setCell ⟨b, off + i * 2, none⟩ (.int .i64 x)).setCell ⟨b, off + i * 2 + 1, none⟩ (.int .i64 y)) t b off n (fun j => if j = i then (x, y) else F j) := by
  obtain ⟨cs, h1, h2, h3⟩ := h
  refine ⟨_, (h1.set _ _).set _ _, by simpa using h2, fun j hj => ?_⟩
  by_cases e : j = i
  · subst e
    simp only [if_true]
    constructor
    · rw [Array.getElem?_setIfInBounds_ne (by omega), Array.getElem?_setIfInBounds_self_of_lt (by omega)]
    · rw [Array.getElem?_setIfInBounds_self_of_lt (by simp; omega)]
  · simp only [if_neg e]
    rw [Array.getElem?_setIfInBounds_ne (by omega), Array.getElem?_setIfInBounds_ne (by omega), Array.getElem?_setIfInBounds_ne (by omega), Array.getElem?_setIfInBounds_ne (by omega)]
    exact h3 j hj
/-- As a slice. -/
theorem RowC.sl (h : RowC w t b off n F) {m cap : Nat} (hm : m ≤ cap) (hc : cap ≤ n) (hM : cap ≤ maxLen) : Sl w t 2 (.slice (some ⟨b, off, none⟩) m cap) m (flat ((List.range m).map F)) := by
  obtain ⟨cs, h1, h2, h3⟩ := h
  have hlen : (flat ((List.range m).map F)).length = m * 2 := by rw [flat_length]; simp
  refine ⟨hlen, _, _, rfl, hm, hM, (fun h => nomatch h), fun a ha => ?_⟩
  injection ha with ha; subst ha
  refine ⟨cs, rfl, h1, by show off + cap * 2 ≤ _; omega, ?_⟩
  apply List.ext_getElem?
  intro j
  show ((cs.toList.drop off).take (m * 2))[j]? = _
  by_cases hj : j < m * 2
  · rw [List.getElem?_take_of_lt hj, List.getElem?_drop]
    have hq : ((List.range m).map F)[j / 2]? = some (F (j / 2)) := by
      rw [List.getElem?_map, List.getElem?_range (by omega)]; rfl
    obtain ⟨g1, g2⟩ := flat_get _ (j / 2) _ hq
    obtain ⟨k1, k2⟩ := h3 (j / 2) (by omega)
    rcases (show j = j / 2 * 2 ∨ j = j / 2 * 2 + 1 by omega) with e | e
    · rw [e, g1]; simpa using k1
    · rw [e, g2]; simpa [Nat.add_assoc] using k2
  · rw [List.getElem?_eq_none (by simp; omega), List.getElem?_eq_none (by omega)]
/-- And back. -/
theorem Sl.rowC {m cap : Nat} {l : List (Int × Int)} (h : Sl w t 2 (.slice (some ⟨b, off, none⟩) m cap) m (flat l)) : RowC w t b off m (fun i => l[i]!) ∧ l.length = m := by
  obtain ⟨h1, A, cap', e, h2, h3, h4, h5⟩ := h
  injection e with e1 e2 e3
  subst e1 e3
  obtain ⟨cs, c1, c2, c3, c4⟩ := h5 _ rfl
  have hl : l.length = m := by rw [flat_length] at h1; omega
  have c3' : off + cap * 2 ≤ cs.size := c3
  refine ⟨⟨cs, c2, by omega, fun i hi => ?_⟩, hl⟩
  have hq : l[i]? = some l[i]! := by rw [List.getElem!_eq_getElem?_getD, List.getElem?_eq_getElem (by omega)]; rfl
  obtain ⟨g1, g2⟩ := flat_get l i _ hq
  rw [← c4] at g1 g2
  rw [List.getElem?_take_of_lt (by omega), List.getElem?_drop] at g1 g2
  exact ⟨by simpa using g1, by simpa [Nat.add_assoc] using g2⟩
end

/-- What can be read as cells: a list of pairs. -/
theorem Rd.pairs {w : World} {B n : Nat} {v : Value} {l : List (Int × Int)} (h : Rd w B 2 v n (flat l)) : l.length = n ∧
    (0 < n → ∃ b off cap, v = .slice (some ⟨b, off, none⟩) n cap ∧ n ≤ cap ∧ cap ≤ maxLen ∧ b < B ∧ ∀ i, i < n → w.cell? ⟨b, off + i * 2, none⟩ = some (.int .i64 (l[i]!).1) ∧ w.cell? ⟨b, off + i * 2 + 1, none⟩ = some (.int .i64 (l[i]!).2)) := by
  have hl : l.length = n := by have := h.1; rw [flat_length] at this; omega
  refine ⟨hl, fun hn => ?_⟩
  obtain ⟨b, off, cap, e, h1, h2, h3, h4⟩ := h.at hn
  refine ⟨b, off, cap, e, h1, h2, h3, fun i hi => ?_⟩
  have hq : l[i]? = some l[i]! := by rw [List.getElem!_eq_getElem?_getD, List.getElem?_eq_getElem (by omega)]; rfl
  obtain ⟨g1, g2⟩ := flat_get l i _ hq
  exact ⟨h4 _ _ g1, by rw [Nat.add_assoc]; exact h4 _ _ g2⟩
theorem flat_drop (l : List (Int × Int)) : ∀ k, flat (l.drop k) = (flat l).drop (k * 2) := by
  induction l with
  | nil => intro k; simp [flat]
  | cons a r ih =>
    intro k
    cases k with
    | zero => simp
    | succ k =>
      rw [List.drop_succ_cons, ih k]
      show _ = (.int .i64 a.1 :: .int .i64 a.2 :: flat r).drop _
      rw [show (k + 1) * 2 = k * 2 + 1 + 1 by omega, List.drop_succ_cons, List.drop_succ_cons]
theorem flat_take (l : List (Int × Int)) : ∀ k, flat (l.take k) = (flat l).take (k * 2) := by
  induction l with
  | nil => intro k; simp [flat]
  | cons a r ih =>
    intro k
    cases k with
    | zero => simp [flat]
    | succ k =>
      rw [List.take_succ_cons]
      show .int .i64 a.1 :: .int .i64 a.2 :: flat (r.take k) = (.int .i64 a.1 :: .int .i64 a.2 :: flat r).take _
      rw [ih k, show (k + 1) * 2 = k * 2 + 1 + 1 by omega, List.take_succ_cons, List.take_succ_cons]
theorem Rd.cut {w : World} {B b off n cap k : Nat} {l : List (Int × Int)} (h : Rd w B 2 (.slice (some ⟨b, off, none⟩) n cap) n (flat l)) (hk : k ≤ n) :
    Rd w B 2 (.slice (some ⟨b, off + k * 2, none⟩) (n - k) (cap - k)) (n - k) (flat (l.drop k)) := by
  obtain ⟨h1, A, cap', e, h2, h3, h4⟩ := h
  injection e with e1 _ e3
  subst e1 e3
  rw [flat_drop]
  refine ⟨by rw [List.length_drop, h1]; omega, _, _, rfl, by omega, by omega, fun hn => ?_⟩
  obtain ⟨b', off', e4, hb, hc⟩ := h4 (by omega)
  injection e4 with e4
  injection e4 with e5 e6 _
  subst e5 e6
  refine ⟨_, _, rfl, hb, fun j u hj => ?_⟩
  rw [List.getElem?_drop] at hj
  have := hc _ u hj
  rwa [← Nat.add_assoc] at this
theorem Rd.upto {w : World} {B n cap k : Nat} {A : Option Addr} {l : List (Int × Int)} (h : Rd w B 2 (.slice A n cap) n (flat l)) (hk : k ≤ n) :
    Rd w B 2 (.slice A k cap) k (flat (l.take k)) := by
  obtain ⟨h1, A', cap', e, h2, h3, h4⟩ := h
  injection e with e1 _ e3
  subst e1 e3
  rw [flat_take]
  refine ⟨by rw [List.length_take, h1]; omega, _, _, rfl, by omega, h3, fun hn => ?_⟩
  obtain ⟨b', off', e4, hb, hc⟩ := h4 (by omega)
  refine ⟨_, _, e4, hb, fun j u hj => ?_⟩
  rw [List.getElem?_take] at hj
  split at hj
  · exact hc _ u hj
  · cases hj
theorem range_map_get (l : List (Int × Int)) : (List.range l.length).map (fun i => l[i]!) = l := by
  apply List.ext_getElem
  · simp
  · intro i h1 h2; simp [List.getElem!_eq_getElem?_getD, List.getElem?_eq_getElem h2]
end Go.Proofs.Ytgdijlpkbbfedaa

namespace Go.Proofs.Ytgdijlpkbbfedaa
open Go.RowKit Go.ChangeShapes Go.WideShapes

theorem Try.ownC : ownKnob Try.prog.godebug = none := by kernel_rfl
theorem Try.laidOutC : laidOutB Try.prog = true := by kernel_rfl
theorem Try.cellS : ∃ f0 f1, Try.prog.underlying 37 = some (.struct #[f0, f1]) ∧ f0.offset = 0 ∧ f1.offset = 1 ∧ f0.type = 3 ∧ f1.type = 3 := by
  exact ⟨_, _, Try.underlying37, rfl, rfl, rfl, rfl⟩
theorem Try.cellsInt : Try.prog.cellsOf 3 = 1 := by kernel_rfl
theorem Try.cellsCell : Try.prog.cellsOf 37 = 2 := by kernel_rfl
theorem Try.bytesCell : Try.prog.bytesOf 37 = 16 := by kernel_rfl

theorem slice_len {H : Type} {enc : TypeId × Value → H} {P : Program} {w : World} {base : Nat} {spare : Nat → Bool} {held : Bool} {t e : TypeId} {fuel : Nat} {a : Addr} {len cap : Nat} {x : DataW H × List MemPlace}
    (ht : P.underlying t = some (.slice e)) (h : DataW.trod enc P w base spare held fuel t [.slice (some a) len cap] = some x) : ∃ elems rest, x.1 = .slice elems rest ∧ elems.length = len := by
  rcases Go.Deep.open_slice ht h with h0 | ⟨a', len', cap', m, n, D, Pl, hcs, hb, hl, hm, hmm, hx, hi⟩
  · simp at h0
  · injection hcs with hcs
    injection hcs with _ e2 _
    subst e2
    subst hx
    exact ⟨_, _, rfl, by simp⟩

/-- A cell whose numbers are ints of 64 bits. -/
def inC (c : Int × Int) : Prop := (-9223372036854775808 ≤ c.1 ∧ c.1 ≤ 9223372036854775807) ∧ (-9223372036854775808 ≤ c.2 ∧ c.2 ≤ 9223372036854775807)

theorem flat_of_cells (W : World) (b off : Nat) (l : List (Int × Int))
    (h : ∀ i, i < l.length → W.cell? ⟨b, off + i * 2, none⟩ = some (.int .i64 l[i]!.1) ∧ W.cell? ⟨b, off + i * 2 + 1, none⟩ = some (.int .i64 l[i]!.2)) :
    ∀ j u, (flat l)[j]? = some u → W.cell? ⟨b, off + j, none⟩ = some u := by
  intro j u hj
  have hjl : j < (flat l).length := by
    rcases Nat.lt_or_ge j (flat l).length with h | h
    · exact h
    · rw [List.getElem?_eq_none h] at hj; cases hj
  rw [flat_length] at hjl
  have hi : j / 2 < l.length := by omega
  have hg : l[j / 2]? = some l[j / 2]! := by rw [List.getElem!_eq_getElem?_getD, List.getElem?_eq_getElem hi]; simp
  obtain ⟨g1, g2⟩ := flat_get l (j / 2) _ hg
  obtain ⟨k1, k2⟩ := h (j / 2) hi
  rcases Nat.mod_two_eq_zero_or_one j with e | e
  · have e' : j = j / 2 * 2 := by omega
    rw [e'] at hj
    rw [hj] at g1
    rw [e']
    rw [g1]; exact k1
  · have e' : j = j / 2 * 2 + 1 := by omega
    rw [e'] at hj
    rw [hj] at g2
    rw [e']
    rw [g2]; exact k2

set_option maxRecDepth 100000 in
theorem cells_of {H : Type} {enc : TypeId × Value → H} {W : World} {base : Nat} {v : Value} {d : DataW H} {p : List MemPlace}
    (hv : Value.okWide Try.prog W .any base 24 v) (h : DataW.Trod enc Try.prog W 0 (fun _ => true) true 24 v d p) :
    ∃ (n : Nat) (l : List (Int × Int)), Rd W W.heap.size 2 v n (flat l) ∧ (∀ c ∈ l, inC c) ∧ (n = 0 ∨ ∃ elems rest, d = .slice elems rest ∧ elems.length = n) := by
  obtain ⟨a0, len, cap, rfl⟩ := okWide_slice Try.underlying24 hv
  obtain ⟨fuel, hf⟩ := h
  obtain ⟨f0, f1, hu, o0, o1, t0, t1⟩ := Try.cellS
  rcases open_two Try.underlying24 hu o0 o1 (by rw [t0]; exact Try.cellsInt) (by rw [t1]; exact Try.cellsInt) Try.cellsCell hf with hcs | ⟨a, len', cap', hcs, hl, hm, hi⟩
  · simp [Value.cells] at hcs
    obtain ⟨rfl, rfl, rfl⟩ := hcs
    exact ⟨0, [], ⟨rfl, _, _, rfl, Nat.le_refl _, Nat.zero_le _, fun h => absurd h (Nat.lt_irrefl _)⟩, by simp, .inl rfl⟩
  · simp [Value.cells] at hcs
    obtain ⟨rfl, rfl, rfl⟩ := hcs
    have hlen := slice_len Try.underlying24 (a := a) (len := len) (cap := cap) hf
    have key : ∀ i, ∃ x : Int × Int, (i < len → W.cell? (a.add (i * 2)) = some (.int .i64 x.1) ∧ W.cell? ((a.add (i * 2)).add 1) = some (.int .i64 x.2)) ∧ inC x := by
      intro i
      by_cases hil : i < len
      · obtain ⟨v0, v1, n, y0, y1, c0, c1, g0, g1⟩ := hi i hil
        rw [t0] at g0
        rw [t1] at g1
        obtain ⟨m0, e0, _, wf0⟩ := DataW.trod_int Try.underlying3 g0
        obtain ⟨m, e1, _, wf⟩ := DataW.trod_int Try.underlying3 g1
        simp at e0 e1
        subst e0 e1
        have hb0 : -9223372036854775808 ≤ m0 ∧ m0 ≤ 9223372036854775807 := by simpa [Lit.wf, IntKind.min, IntKind.max, IntKind.signed, IntKind.bits] using wf0
        have hb : -9223372036854775808 ≤ m ∧ m ≤ 9223372036854775807 := by simpa [Lit.wf, IntKind.min, IntKind.max, IntKind.signed, IntKind.bits] using wf
        exact ⟨(m0, m), fun _ => ⟨c0, c1⟩, hb0, hb⟩
      · exact ⟨(0, 0), fun h => absurd h hil, by unfold inC; decide⟩
    obtain ⟨f, hfx⟩ := Classical.axiomOfChoice key
    have hg : ∀ i, i < len → ((List.range len).map f)[i]! = f i := fun i hi => by simp [List.getElem!_eq_getElem?_getD, List.getElem?_map, List.getElem?_range hi]
    refine ⟨len, (List.range len).map f, ⟨by rw [flat_length]; simp, _, _, rfl, by omega, hm, fun hn => ?_⟩, ?_, .inr hlen⟩
    · obtain ⟨b, off, spot⟩ := a
      have c0 := ((hfx 0).1 hn).1
      have hspot : spot = none := by simpa [Addr.add] using World.cell?_spot c0
      subst hspot
      refine ⟨b, off, rfl, by simpa [Addr.add] using World.block_lt_of_cell? W _ c0, flat_of_cells W b off _ fun i hil => ?_⟩
      have hil' : i < len := by simpa using hil
      obtain ⟨k0, k1⟩ := (hfx i).1 hil'
      rw [Addr.add_lit] at k0 k1
      rw [Addr.add_lit] at k1
      rw [hg i hil']
      exact ⟨k0, k1⟩
    · intro c hc
      simp only [List.mem_map] at hc
      obtain ⟨i, _, rfl⟩ := hc
      exact (hfx i).2
end Go.Proofs.Ytgdijlpkbbfedaa

namespace Go.Proofs.Ytgdijlpkbbfedaa
open Go.RowKit

section
variable {P : Program} (w : World)

theorem wp_append_sl {o : Oper} {a : Act} {K : Act → World → Prop} {Q : Exit → Act → World → Prop} (s x : Operand) (t : TypeId)
    (ho : o.op = .call { callee := .builtin .append, args := #[s, x], argTypes := #[t, t] })
    (e : TypeId) (z : Value) (sz bytes : Nat) (ht : P.underlying t = some (.slice e)) (hinfo : (P.info? e).map (fun i => (i.zero, i.size, i.bytes)) = some (some z, sz, bytes))
    (hzs : z.cells.size = sz) (hsz : 0 < sz)
    {v : Value} {n : Nat} {xs : List Value} (hs : a.eval s = v) (hv : Sl w e sz v n xs)
    {B m : Nat} {xv : Value} {news : List Value} (hx : a.eval x = xv) (hr : Rd w B sz xv m news) (h1 : ∀ u ∈ news, u.oneCell' = true)
    (hbytes : (n + m) * bytes ≤ 140737488355328) (h63 : n + m ≤ maxLen)
    (h : ∀ v' w', Sl w' e sz v' (n + m) (xs ++ news) → Mod (fun b => sblk v = some b) w w' → (sblk v' = sblk v ∨ sblk v' = some w.heap.size ∧ w.heap.size < w'.heap.size) → K (a.put o.dst v') w') : o.wp P a w K Q := by
  obtain ⟨i, hi, h2, h3, h4⟩ : ∃ i, P.info? e = some i ∧ i.zero = some z ∧ i.size = sz ∧ i.bytes = bytes := by
    cases hh : P.info? e with
    | none => simp [hh] at hinfo
    | some i => simp [hh] at hinfo; exact ⟨i, rfl, hinfo.1, hinfo.2.1, hinfo.2.2⟩
  obtain ⟨v', w', hrun, r2, r3, r4⟩ := run_append_sl (P := P) w t o.type e i z sz bytes ht hi h2 h3 h4 hzs hsz hv hr h1 hbytes h63
  unfold Oper.wp execOp
  simp only [ho, resolve, invoke, builtin, Sem.run_bind, Sem.run_pure, Result.andThen_ok, List.map_toArray, List.map_cons, List.map_nil, hs, hx, hrun]
  exact h v' w' r2 r3 r4

theorem wpList_append_sl {ops : Array Oper} {rest : List Oper} {o : Oper} {a : Act} {Q : Exit → Act → World → Prop} (hgd : o.guard = none) (s x : Operand) (t : TypeId)
    (ho : o.op = .call { callee := .builtin .append, args := #[s, x], argTypes := #[t, t] })
    (e : TypeId) (z : Value) (sz bytes : Nat) (ht : P.underlying t = some (.slice e)) (hinfo : (P.info? e).map (fun i => (i.zero, i.size, i.bytes)) = some (some z, sz, bytes))
    (hzs : z.cells.size = sz) (hsz : 0 < sz)
    {v : Value} {n : Nat} {xs : List Value} (hs : a.eval s = v) (hv : Sl w e sz v n xs)
    {B m : Nat} {xv : Value} {news : List Value} (hx : a.eval x = xv) (hr : Rd w B sz xv m news) (h1 : ∀ u ∈ news, u.oneCell' = true)
    (hbytes : (n + m) * bytes ≤ 140737488355328) (h63 : n + m ≤ maxLen)
    (h : ∀ v' w', Sl w' e sz v' (n + m) (xs ++ news) → Mod (fun b => sblk v = some b) w w' → (sblk v' = sblk v ∨ sblk v' = some w.heap.size ∧ w.heap.size < w'.heap.size) → wpList P ops Q rest (a.put o.dst v') w') :
    wpList P ops Q (o :: rest) a w :=
  wpList_plain hgd fun _ hK => wp_append_sl w s x t ho e z sz bytes ht hinfo hzs hsz hs hv hx hr h1 hbytes h63 fun v' w' h2 h3 h4 => hK _ _ (h v' w' h2 h3 h4)

theorem step_append_sl {ops : Array Oper} {o : Oper} {a : Act} {K : Act → World → Prop} {Q : Exit → Act → World → Prop} {E : Prop} (hgd : o.guard = none) (s x : Operand) (t : TypeId)
    (ho : o.op = .call { callee := .builtin .append, args := #[s, x], argTypes := #[t, t] })
    (e : TypeId) (z : Value) (sz bytes : Nat) (ht : P.underlying t = some (.slice e)) (hinfo : (P.info? e).map (fun i => (i.zero, i.size, i.bytes)) = some (some z, sz, bytes))
    (hzs : z.cells.size = sz) (hsz : 0 < sz)
    {v : Value} {n : Nat} {xs : List Value} (hs : a.eval s = v) (hv : Sl w e sz v n xs)
    {B m : Nat} {xv : Value} {news : List Value} (hx : a.eval x = xv) (hr : Rd w B sz xv m news) (h1 : ∀ u ∈ news, u.oneCell' = true)
    (hbytes : (n + m) * bytes ≤ 140737488355328) (h63 : n + m ≤ maxLen)
    (h : ∀ v' w', Sl w' e sz v' (n + m) (xs ++ news) → Mod (fun b => sblk v = some b) w w' → (sblk v' = sblk v ∨ sblk v' = some w.heap.size ∧ w.heap.size < w'.heap.size) → K (a.put o.dst v') w') :
    if Region.wanted o (yielded ops a.tmps) = true then Oper.wp P o a w K Q else E := by
  have hw : Region.wanted o (yielded ops a.tmps) = true := by simp [Region.wanted, hgd]
  rw [if_pos hw]
  exact wp_append_sl w s x t ho e z sz bytes ht hinfo hzs hsz hs hv hx hr h1 hbytes h63 h
end
theorem fresh_of {w w1 w' : World} {v v' : Value} (hm : Mod (fun b => sblk v = some b) w1 w') (hd : sblk v' = sblk v ∨ sblk v' = some w1.heap.size ∧ w1.heap.size < w'.heap.size)
    (hb : Below w.heap.size w w1) (hv : ∀ b, sblk v = some b → w.heap.size ≤ b) : (∀ b, sblk v' = some b → w.heap.size ≤ b) ∧ Below w.heap.size w w' := by
  refine ⟨fun b hb' => ?_, hb.trans (hm.below hb.size fun b hlt he => ?_)⟩
  · rcases hd with e | ⟨e, _⟩
    · exact hv b (by rw [← e]; exact hb')
    · rw [e] at hb'; injection hb' with hb'; have := hb.size; omega
  · have := hv b he; omega

end Go.Proofs.Ytgdijlpkbbfedaa

namespace Go.Proofs.Ytgdijlpkbbfedaa
open Go.RowKit

theorem tmod_spot (v n : Int) (hn : 1 ≤ n) : (if v.tmod n < 0 then v.tmod n + n else v.tmod n) = v % n := by
  rcases Int.lt_or_le v 0 with h | h
  · have e : v.tmod n = -((-v) % n) := by
      have : v = -(-v) := by omega
      rw [this, Int.neg_tmod, Int.tmod_eq_emod_of_nonneg (by omega)]; simp
    have h1 := Int.emod_nonneg v (show n ≠ 0 by omega)
    have h2 := Int.emod_lt_of_pos v (show 0 < n by omega)
    have h3 := Int.emod_nonneg (-v) (show n ≠ 0 by omega)
    have h4 := Int.emod_lt_of_pos (-v) (show 0 < n by omega)
    have h5 := Int.mul_ediv_add_emod v n
    have h6 := Int.mul_ediv_add_emod (-v) n
    have h7 : n * (v / n + (-v) / n) + (v % n + (-v) % n) = 0 := by rw [Int.mul_add]; omega
    rw [e]
    by_cases hz : (-v) % n = 0
    · rw [hz] at h7 ⊢
      have : (v % n) % n = 0 := by
        have : v % n = n * (-(v / n + (-v) / n)) := by rw [Int.mul_neg]; omega
        rw [this]; simp
      rw [Int.emod_emod_of_dvd _ (Int.dvd_refl n)] at this
      simp [this]
    · have hlt : -(-v % n) < 0 := by omega
      rw [if_pos hlt]
      have : (v % n + (-v) % n) % n = 0 := by
        have : v % n + (-v) % n = n * (-(v / n + (-v) / n)) := by rw [Int.mul_neg]; omega
        rw [this]; simp
      obtain ⟨k, hk⟩ := Int.dvd_of_emod_eq_zero this
      have : k = 1 := by
        have k1 : n * k < n * 2 := by omega
        have k2 : n * 0 < n * k := by omega
        have := Int.lt_of_mul_lt_mul_left k1 (by omega)
        have := Int.lt_of_mul_lt_mul_left k2 (by omega)
        omega
      subst this; omega
  · rw [Int.tmod_eq_emod_of_nonneg h, if_neg]
    have := Int.emod_nonneg v (show n ≠ 0 by omega); omega

theorem spot_any (v n : Int) (hn : 1 ≤ n) (hn' : n ≤ 4611686018427387904) (_hv : -9223372036854775808 ≤ v) (_hv' : v ≤ 9223372036854775807) (w : World) :
    Calls Try.prog 10 #[.int .i64 v, .int .i64 n] w fun e w' => e = .returned (.int .i64 (v % n)) ∧ w = w' := by
  have h1 : -n < v.tmod n := by have := Int.lt_tmod_of_pos v (show 0 < n by omega); exact this
  have h2 : v.tmod n < n := Int.tmod_lt_of_pos v (by omega)
  have hs := tmod_spot v n hn
  have hn0 : (n == 0) = false := by simp; omega
  by_cases hneg : v.tmod n < 0
  · rw [if_pos hneg] at hs
    have H := Lib.hid hs; clear hs
    go_enter Try.func10, Try.ntmps10
    go_wp2
    go_ret
    exact ⟨by rw [H.out]; rfl, rfl⟩
  · rw [if_neg hneg] at hs
    have H := Lib.hid hs; clear hs
    go_enter Try.func10, Try.ntmps10
    go_wp2
    go_ret
    exact ⟨by rw [H.out]; rfl, rfl⟩
end Go.Proofs.Ytgdijlpkbbfedaa

namespace Go.Proofs.Ytgdijlpkbbfedaa
open Go.RowKit

def intsV (l : List Int) : List Value := l.map (Value.int .i64)
theorem intsV_len (l : List Int) : (intsV l).length = l.length := by simp [intsV]
theorem intsV_at {l : List Int} {i : Nat} {x : Int} (h : l[i]? = some x) : (intsV l)[i]? = some (.int .i64 x) := by simp [intsV, h]
theorem intsV_one (l : List Int) : ∀ u ∈ intsV l, u.oneCell' = true := fun u hu => by
  obtain ⟨x, _, rfl⟩ := List.mem_map.1 hu; rfl
abbrev IT := 3
abbrev NT := 67

/-- A cell of a slice is written. -/
theorem Sl.put {w : World} {t : TypeId} {b off n cap : Nat} {xs : List Value} (h : Sl w t 1 (.slice (some ⟨b, off, none⟩) n cap) n xs) {i : Nat} (hi : i < n) (u : Value) :
    Sl (w.setCell ⟨b, off + i, none⟩ u) t 1 (.slice (some ⟨b, off, none⟩) n cap) n (xs.set i u) := by
  obtain ⟨h1, A, cap', e, h2, h3, h4, h5⟩ := h
  injection e with e1 _ e2
  subst e1; subst e2
  obtain ⟨cs, c1, c2, c3, c4⟩ := h5 _ rfl
  refine ⟨by rw [List.length_set]; exact h1, _, _, rfl, h2, h3, (fun h => nomatch h), fun a ha => ?_⟩
  injection ha with ha; subst ha
  refine ⟨cs.setIfInBounds (off + i) u, rfl, c2.set _ _, by rw [Array.size_setIfInBounds]; exact c3, ?_⟩
  rw [← c4]
  simp only at c3 ⊢
  apply List.ext_getElem?
  intro j
  simp only [Array.toList_setIfInBounds, List.getElem?_set, List.getElem?_take, List.getElem?_drop, List.length_take, List.length_drop, Array.length_toList]
  simp only [Nat.mul_one] at c3 ⊢
  have a1 : off + i < cs.size := by omega
  have a2 : i < min n (cs.size - off) := by omega
  by_cases hij : i = j
  · subst hij
    simp [hi, a1, a2]
  · have : off + i ≠ off + j := by omega
    simp [hij]
/-- Cut to its first elements, another block's cell being written. -/
theorem Sl.cut {w : World} {t : TypeId} {b off n m cap p o : Nat} {l : List Int} {u : Value} (h : Sl w t 1 (.slice (some ⟨b, off, none⟩) n cap) n (intsV l)) (hm : m ≤ n) (hne : sblk (.slice (some ⟨b, off, none⟩) n cap) ≠ some p) :
    Sl (w.setCell ⟨p, o, none⟩ u) t 1 (.slice (some ⟨b, off, none⟩) m cap) m (intsV (l.take m)) := by
  have hl := h.len
  have h2 := h.far (p := ⟨p, o, none⟩) hne u
  obtain ⟨_, A, cap', e, c1, c2, c3, c4⟩ := h2
  injection e with e1 _ e2
  subst e1; subst e2
  refine ⟨by rw [intsV_len] at hl; rw [intsV_len, List.length_take]; omega, _, _, rfl, by omega, c2, (fun h => nomatch h), fun a ha => ?_⟩
  obtain ⟨cs, d1, d2, d3, d4⟩ := c4 a ha
  refine ⟨cs, d1, d2, d3, ?_⟩
  rw [intsV, List.map_take, ← intsV, ← d4, List.take_take, Nat.mul_one, Nat.mul_one]
  congr 1; omega
theorem Sl.out {w : World} {t : TypeId} {v : Value} {n : Nat} {l : List Int} (h : Sl w t 1 v n (intsV l)) : l.length = n := by
  have := h.len; rw [intsV_len] at this; omega

set_option maxRecDepth 100000 in
theorem len_any (w : World) (A : Option Addr) (n cap : Nat) :
    Calls Try.prog 105 #[.slice A n cap] w fun e w' => e = .returned (.int .i64 n) ∧ w = w' := by
  go_enter Try.func105, Try.ntmps105
  go_wp2
  go_ret
  exact ⟨rfl, rfl⟩
set_option maxRecDepth 100000 in
theorem less_any (w : World) (v : Value) (n : Nat) (l : List Int) (h : Sl w IT 1 v n (intsV l)) (i j : Nat) (x y : Int) (hi : l[i]? = some x) (hj : l[j]? = some y) :
    Calls Try.prog 106 #[v, .int .i64 i, .int .i64 j] w fun e w' => e = .returned (.bool (decide (x < y))) ∧ Below w.heap.size w w' ∧ w'.heap = w.heap := by
  have hl := h.out
  have i1 := (List.getElem?_eq_some_iff.1 hi).1
  have j1 := (List.getElem?_eq_some_iff.1 hj).1
  obtain ⟨b, off, cap, rfl, hc1, hc2, hlt, hc, hf, _⟩ := h.at (by omega)
  have c0 := hc i _ (intsV_at hi)
  have c1 := hc j _ (intsV_at hj)
  have i2 : (i : Int) < (n : Int) := by omega
  have j2 : (j : Int) < (n : Int) := by omega
  clear hc hf h
  go_enter Try.func106, Try.ntmps106
  go_wp2_with fail
  go_quiet (fail)
  go_wp2
  go_ret
  exact ⟨rfl, ⟨rfl, rfl, rfl, Nat.le_refl _, fun _ _ => rfl⟩, rfl⟩
set_option maxRecDepth 100000 in
theorem swap_any (w : World) (v : Value) (n : Nat) (l : List Int) (h : Sl w IT 1 v n (intsV l)) (i j : Nat) (x y : Int) (hi : l[i]? = some x) (hj : l[j]? = some y) :
    Calls Try.prog 107 #[v, .int .i64 i, .int .i64 j] w fun e w' => e = .returned (.tuple #[]) ∧ Sl w' IT 1 v n (intsV ((l.set i y).set j x)) ∧ Mod (fun b => sblk v = some b) w w' := by
  have hl := h.out
  have i1 := (List.getElem?_eq_some_iff.1 hi).1
  have j1 := (List.getElem?_eq_some_iff.1 hj).1
  obtain ⟨b, off, cap, rfl, hc1, hc2, hlt, hc, hf, _⟩ := h.at (by omega)
  have c0 := hc i _ (intsV_at hi)
  have c1 := hc j _ (intsV_at hj)
  have f0 := hf (off + i)
  have f1 := hf (off + j)
  have i2 : (i : Int) < (n : Int) := by omega
  have j2 : (j : Int) < (n : Int) := by omega
  have i1' : i < n := by omega
  have j1' : j < n := by omega
  clear hc hf
  have H := Lib.hid h
  clear h
  go_enter Try.func107, Try.ntmps107
  go_wp2_with fail
  by_cases hij : i = j
  · subst hij
    have hxy : x = y := Option.some.inj (hi.symm.trans hj)
    subst hxy
    go_region
    go_wp2
    go_end0
    refine ⟨rfl, ?_, ?_⟩
    · have := (H.out.put (by omega) (.int .i64 x)).put (i := i) (by omega) (.int .i64 x)
      rw [intsV, List.map_set, List.map_set]
      exact this
    · exact (((Mod.refl (fun b' => some b = some b') w).set (p := ⟨b, off + i, none⟩) (fun _ => rfl) _).set (p := ⟨b, off + i, none⟩) (fun _ => rfl) _).drew
  · have hij' : ¬ off + i = off + j := by omega
    have hji' : ¬ off + j = off + i := by omega
    go_region
    go_wp2
    go_end0
    refine ⟨rfl, ?_, ?_⟩
    · have := (H.out.put i1' (.int .i64 y)).put (i := j) j1' (.int .i64 x)
      rw [intsV, List.map_set, List.map_set]
      exact this
    · exact (((Mod.refl (fun b' => some b = some b') w).set (p := ⟨b, off + i, none⟩) (fun _ => rfl) _).set (p := ⟨b, off + j, none⟩) (fun _ => rfl) _).drew

def iface (x : Int) : Value := .iface 3 (.int .i64 x)
/-- One cell of block p was written, other old blocks but those of S left alone. -/
structure Wrote (S : Nat → Prop) (w w' : World) (p o : Nat) (u : Value) : Prop where
  mod : Mod (fun b => b = p ∨ S b) w w'
  blk : ∀ t cs, Blk w p t cs → Blk w' p t (cs.setIfInBounds o u)

set_option maxRecDepth 100000 in
theorem npop_any (w : World) (p o : Nat) (v : Value) (n : Nat) (l : List Int) (hp : w.cell? ⟨p, o, none⟩ = some v) (hf : w.frozen? ⟨p, o, none⟩ = false) (h : Sl w IT 1 v (n + 1) (intsV l)) (hne : sblk v ≠ some p) (x : Int) (hx : l[n]? = some x) :
    Calls Try.prog 108 #[.pointer (some ⟨p, o, none⟩)] w fun e w' => ∃ v', e = .returned (iface x) ∧ Sl w' IT 1 v' n (intsV (l.take n)) ∧ sblk v' = sblk v ∧ Wrote (fun _ => False) w w' p o v' := by
  obtain ⟨b, off, cap, rfl, hc1, hc2, hlt, hc, hf', _⟩ := h.at (by omega)
  have c0 := hc n _ (intsV_at hx)
  have i2 : (n : Int) < ((n : Int) + 1) := by omega
  have hwn : wrap64 (n : Int) = n := by unfold maxLen at hc2; unfold wrap64; omega
  have H := Lib.hid h
  clear hc hf' h
  go_enter Try.func108, Try.ntmps108
  go_wp2_with fail
  go_ret
  refine ⟨.slice (some ⟨b, off, none⟩) n cap, rfl, ?_, rfl, ?_⟩
  · exact H.out.cut (by omega) hne
  · exact ⟨(Mod.refl _ w).set (p := ⟨p, o, none⟩) (fun _ => .inl rfl) _, fun t cs hb => hb.set _ _⟩

theorem push_end {w w7 : World} {p o : Nat} {v v7 : Value} {n : Nat} {xs xs0 : List Value} {ob : Obj} (hpl : p < w.heap.size) (hp : w.cell? ⟨p, o, none⟩ = some v) (hf : w.frozen? ⟨p, o, none⟩ = false) (_hs0 : Sl w IT 1 v n xs0) (hne : sblk v ≠ some p)
    (hm0 : Mod (fun b => sblk v = some b) (w.alloc ob).drew w7) (hd : sblk v7 = sblk v ∨ sblk v7 = some (w.alloc ob).drew.heap.size ∧ (w.alloc ob).drew.heap.size < w7.heap.size) (hs : Sl w7 IT 1 v7 (n + 1) xs) :
    w7.cell? ⟨p, o, none⟩ = some v ∧ w7.frozen? ⟨p, o, none⟩ = false ∧ Sl (w7.setCell ⟨p, o, none⟩ v7) IT 1 v7 (n + 1) xs ∧ (sblk v7 = sblk v ∨ ∃ q, sblk v7 = some q ∧ w.heap.size ≤ q) ∧ Wrote (fun b => sblk v = some b) w (w7.setCell ⟨p, o, none⟩ v7) p o v7 := by
  have hm : Mod (fun b => sblk v = some b) w w7 := ⟨hm0.os, hm0.tape, hm0.output, Nat.le_trans (by simp) hm0.size, fun k hk hn => (hm0.block k (by show k < (w.alloc ob).heap.size; simp; omega) hn).trans (Below.heap_alloc w ob k hk)⟩
  have h7 : sblk v7 = sblk v ∨ ∃ q, sblk v7 = some q ∧ w.heap.size ≤ q := by
    rcases hd with h | ⟨h, _⟩
    · exact .inl h
    · exact .inr ⟨_, h, by show w.heap.size ≤ (w.alloc ob).heap.size; simp⟩
  refine ⟨(hm.cell (a := ⟨p, o, none⟩) hpl hne).trans hp, (hm.frozen (a := ⟨p, o, none⟩) hpl hne).trans hf, hs.far (p := ⟨p, o, none⟩) ?_ _, h7, ?_, fun t cs hb => ?_⟩
  · show sblk v7 ≠ some p
    rcases h7 with h | ⟨q, h, hq⟩
    · rw [h]; exact hne
    · rw [h]; intro e; have := Option.some.inj e; omega
  · exact (hm.mono fun b _ h => .inr h).set (p := ⟨p, o, none⟩) (fun _ => .inl rfl) _
  · have hb' : Blk w7 p t cs := (hm.block p hpl hne).trans hb
    exact hb'.set _ _

theorem Try.infoInt : (Try.prog.info? 3).map (fun i => (i.zero, i.size, i.bytes)) = some (some (.int .i64 0), 1, 8) := by kernel_rfl
set_option maxRecDepth 100000 in
theorem npush_any (w : World) (p o : Nat) (v : Value) (n : Nat) (l : List Int) (hp : w.cell? ⟨p, o, none⟩ = some v) (hf : w.frozen? ⟨p, o, none⟩ = false) (h : Sl w IT 1 v n (intsV l)) (hne : sblk v ≠ some p) (x : Int) (hn : n ≤ 1000000) :
    Calls Try.prog 109 #[.pointer (some ⟨p, o, none⟩), iface x] w fun e w' => ∃ v', e = .returned (.tuple #[]) ∧ Sl w' IT 1 v' (n + 1) (intsV (l ++ [x])) ∧ (sblk v' = sblk v ∨ ∃ q, sblk v' = some q ∧ w.heap.size ≤ q) ∧ Wrote (fun b => sblk v = some b) w w' p o v' := by
  have H := Lib.hid h
  have hpl := World.block_lt_of_cell? w _ hp
  have hpl : p < w.heap.size := hpl
  have hpa : (w.alloc (.cells #[.int .i64 x] IT)).cell? ⟨p, o, none⟩ = some v := (World.cell?_alloc_lt w _ ⟨p, o, none⟩ hpl).trans hp
  obtain ⟨A, cap, rfl, hc1, hc2⟩ := h.form
  have HX := Lib.hid (Rd.fresh w IT #[.int .i64 x] 1 1 rfl (by unfold maxLen; omega))
  have HN := Lib.hid hne
  have HP : Hid (∀ ob w7 v7 xs, Mod (fun b => sblk (.slice A n cap) = some b) (w.alloc ob).drew w7 → (sblk v7 = sblk (.slice A n cap) ∨ sblk v7 = some (w.alloc ob).drew.heap.size ∧ (w.alloc ob).drew.heap.size < w7.heap.size) → Sl w7 IT 1 v7 (n + 1) xs → _) := fun ob w7 v7 xs h1 h2 h3 => push_end (o := o) hpl hp hf h hne h1 h2 h3
  clear h hne
  have ha : ∀ w, (Instr.typeAssert (.iface 3 (.int .i64 x)) 20 3 false).run Try.prog w = .ok (.int .i64 x) w := fun w => by kernel_rfl
  unfold iface
  go_enter Try.func109, Try.ntmps109
  go_wp2_with fail
  go_region_law
    ((refine step_append_sl _ rfl (.tmp 7) (.tmp 10) NT rfl IT (.int .i64 0) 1 8 Try.underlying67 Try.infoInt rfl (by decide) rfl (by exact H.out.alloc _) rfl (by exact HX.out) (by intro u hu; simp at hu; subst hu; rfl) (by omega) (by unfold maxLen; omega) ?_; intro v' w1 hs1 hm1 hd1; obtain ⟨d0, d1, d2, d3, d4⟩ := HP.out _ _ _ _ hm1 hd1 hs1; obtain ⟨A', cap', rfl, g1, g2⟩ := hs1.form))
  all_goals go_wp2
  all_goals go_end0
  all_goals (refine ⟨_, rfl, ?_, d3, d4⟩; rw [intsV, List.map_append]; exact d2)
end Go.Proofs.Ytgdijlpkbbfedaa

namespace Go.Proofs.Ytgdijlpkbbfedaa
open Go.RowKit

theorem run_load_cell {P : Program} {w : World} {a : Addr} {v : Value} (h : w.cell? a = some v) : (load a).run P w = .ok v w := by
  simp [go_sem, h]
theorem meth_val {w : World} {p o : Nat} {v : Value} (fuel : Nat) (name : String) (f : Nat) (hm : (Try.prog.info? 112).map (fun I => (I.methods.find? (fun x => x.name == name)).map fun m => (m.path.toList.length, m.func)) = some (some (0, some (f, false)))) (h : w.cell? ⟨p, o, none⟩ = some v) :
    (method (fuel + 1) 112 (.pointer (some ⟨p, o, none⟩)) name).run Try.prog w = .ok (f, v) w := by
  obtain ⟨I, hI, h2⟩ := Option.map_eq_some_iff.1 hm
  obtain ⟨m, hf, h3⟩ := Option.map_eq_some_iff.1 h2
  simp only [Prod.mk.injEq] at h3
  obtain ⟨h4, h5⟩ := h3
  have h4 : m.path.toList = [] := List.length_eq_zero_iff.1 h4
  have e0 : (typeInfo 112).run Try.prog w = .ok I w := by simp [typeInfo, go_sem, hI]
  have e2 : ∀ s, (receiverAt 112 (.val (.pointer (some ⟨p, o, none⟩))) false s).run Try.prog w = (load ⟨p, o, none⟩).run Try.prog w := by
    intro s
    cases s with
    | none => kernel_rfl
    | some s => kernel_rfl
  unfold method
  rw [Sem.run_bind, e0]
  simp only [Result.andThen_ok, hf, h4, h5, follow, Sem.run_bind, Sem.run_pure]
  rw [e2, run_load_cell h]
  rfl
theorem meth_len {w : World} {p o : Nat} {v : Value} (fuel : Nat) (h : w.cell? ⟨p, o, none⟩ = some v) : (method (fuel + 1) 112 (.pointer (some ⟨p, o, none⟩)) "Len").run Try.prog w = .ok (105, v) w :=
  meth_val fuel "Len" _ (by kernel_rfl) h
theorem meth_less {w : World} {p o : Nat} {v : Value} (fuel : Nat) (h : w.cell? ⟨p, o, none⟩ = some v) : (method (fuel + 1) 112 (.pointer (some ⟨p, o, none⟩)) "Less").run Try.prog w = .ok (106, v) w :=
  meth_val fuel "Less" _ (by kernel_rfl) h
theorem meth_swap {w : World} {p o : Nat} {v : Value} (fuel : Nat) (h : w.cell? ⟨p, o, none⟩ = some v) : (method (fuel + 1) 112 (.pointer (some ⟨p, o, none⟩)) "Swap").run Try.prog w = .ok (107, v) w :=
  meth_val fuel "Swap" _ (by kernel_rfl) h
theorem meth_pop (w : World) (p o fuel : Nat) : (method (fuel + 1) 112 (.pointer (some ⟨p, o, none⟩)) "Pop").run Try.prog w = .ok (108, .pointer (some ⟨p, o, none⟩)) w := by kernel_rfl
theorem meth_push (w : World) (p o fuel : Nat) : (method (fuel + 1) 112 (.pointer (some ⟨p, o, none⟩)) "Push").run Try.prog w = .ok (109, .pointer (some ⟨p, o, none⟩)) w := by kernel_rfl
end Go.Proofs.Ytgdijlpkbbfedaa

namespace Go.Proofs.Ytgdijlpkbbfedaa
open Go.RowKit

abbrev hV (p o : Nat) : Value := .iface 112 (.pointer (some ⟨p, o, none⟩))
theorem perm_swap {l : List Int} {i j : Nat} {x y : Int} (hi : l[i]? = some x) (hj : l[j]? = some y) : List.Perm ((l.set i y).set j x) l := by
  obtain ⟨i1, rfl⟩ := List.getElem?_eq_some_iff.1 hi
  obtain ⟨j1, rfl⟩ := List.getElem?_eq_some_iff.1 hj
  have h := Array.swap_perm (xs := l.toArray) (i := i) (j := j) (by simpa using i1) (by simpa using j1)
  have h2 := Array.perm_iff_toList_perm.1 h
  simpa [Array.swap] using h2

theorem half_lt {i j n : Nat} (h : j = 2 * i + 1 ∨ j = 2 * i + 2) (hjn : j < n) : i < n ∧ i < j := by omega
theorem wrap_nat {i : Nat} (h : i ≤ 4000000) : wrap64 (i : Int) = i := by unfold wrap64; omega
theorem half_ne {i j : Nat} (h : j = 2 * i + 1 ∨ j = 2 * i + 2) : ((i : Int) == (j : Int)) = false := by rw [beq_eq_false_iff_ne]; omega
theorem half_div {i j : Nat} (h : j = 2 * i + 1 ∨ j = 2 * i + 2) : Int.tdiv ((j : Int) - 1) 2 = (i : Int) := by
  rw [Int.tdiv_eq_ediv_of_nonneg (by omega)]; omega
theorem wrap_pred {j : Nat} (h : j ≤ 4000000) : IntKind.i64.wrap ((j : Int) - 1) = (j : Int) - 1 := by rw [IntKind.wrap_i64]; omega

set_option maxRecDepth 100000 in
set_option maxHeartbeats 3200000 in
theorem up_any (w : World) (p o : Nat) (v : Value) (n : Nat) (l : List Int) (hp : w.cell? ⟨p, o, none⟩ = some v) (h : Sl w IT 1 v n (intsV l)) (hne : sblk v ≠ some p) (j : Nat) (hj : j < n) (hn : n ≤ 1000000) :
    Calls Try.prog 80 #[hV p o, .int .i64 j] w fun e w' => ∃ l', e = .returned (.tuple #[]) ∧ List.Perm l' l ∧ Sl w' IT 1 v n (intsV l') ∧ Mod (fun b => sblk v = some b) w w' := by
  have H := Lib.hid h
  have hpl := World.block_lt_of_cell? w _ hp
  have hpl : p < w.heap.size := hpl
  have HP := Lib.hid hp
  have HNE := Lib.hid hne
  clear h hp hne
  unfold hV
  go_enter Try.func80, Try.ntmps80
  go_wp2_with fail
  go_loopw [1] (fun jv wx => ∃ (j : Nat) (l' : List Int), jv = .int .i64 j ∧ j < n ∧ List.Perm l' l ∧ Sl wx IT 1 v n (intsV l') ∧ Mod (fun b => sblk v = some b) w wx) (fun jv _ => (intOf jv).toNat)
  case atStart => exact ⟨j, l, rfl, hj, .refl _, H.out, Mod.refl _ _⟩
  case round =>
    obtain ⟨j, l', rfl, hjn, hpe, hs, hm⟩ := hrel
    have HPE := Lib.hid hpe
    have HS := Lib.hid hs
    have HM := Lib.hid hm
    have c0 : wr.cell? ⟨p, o, none⟩ = some v := (hm.cell (a := ⟨p, o, none⟩) hpl HNE.out).trans HP.out
    have hln := hs.out
    obtain ⟨A, cap, hv, _, _⟩ := hs.form
    subst hv
    clear hpe hs hm
    have hml : ∀ fuel, (method (fuel + 1) 112 (.pointer (some ⟨p, o, none⟩)) "Less").run Try.prog wr = .ok (106, .slice A n cap) wr := fun fuel => meth_less fuel c0
    have hms : ∀ fuel, (method (fuel + 1) 112 (.pointer (some ⟨p, o, none⟩)) "Swap").run Try.prog wr = .ok (107, .slice A n cap) wr := fun fuel => meth_swap fuel c0
    rcases Nat.eq_zero_or_pos j with rfl | hj0
    · have hq : (Int.tdiv (-1) 2) = 0 := by decide
      go_wp2_with fail
      go_end0
      exact ⟨l', rfl, HPE.out, HS.out, HM.out⟩
    · obtain ⟨i, hi⟩ : ∃ i : Nat, j = 2 * i + 1 ∨ j = 2 * i + 2 := ⟨(j - 1) / 2, by omega⟩
      obtain ⟨hi1, hi2⟩ := half_lt hi hjn
      have hq := half_div hi
      have hne := half_ne hi
      have hj4 : j ≤ 4000000 := Nat.le_trans (Nat.le_of_lt hjn) (Nat.le_trans hn (by decide))
      have hwj := wrap_pred hj4
      have hwi := wrap_nat (Nat.le_trans (Nat.le_of_lt hi2) hj4)
      obtain ⟨x, hx⟩ : ∃ x, l'[i]? = some x := ⟨l'[i]'(by rw [hln]; exact hi1), List.getElem?_eq_getElem _⟩
      obtain ⟨y, hy⟩ : ∃ x, l'[j]? = some x := ⟨l'[j]'(by rw [hln]; exact hjn), List.getElem?_eq_getElem _⟩
      have HI1 := Lib.hid hi1
      have HI2 := Lib.hid hi2
      clear hi hj4 hi1 hi2
      go_wp2_with fail
      (with_reducible refine (less_any wr _ n l' HS.out j i y x hy hx).mono ?_)
      rintro e w2 ⟨rfl, hb2, hh2⟩
      have HS2 : Hid (Sl w2 IT 1 (.slice A n cap) n (intsV l')) := HS.out.of_blk fun b _ => by rw [hh2]
      have c2 : w2.cell? ⟨p, o, none⟩ = some (.slice A n cap) := (World.cell?_of_block (a := ⟨p, o, none⟩) (by rw [hh2])).trans c0
      have HM2 : Hid (Mod (fun b => sblk (.slice A n cap) = some b) w w2) := HM.out.trans (Mod.of_below_all hb2) (fun _ _ h => h.elim)
      clear hml hms c0
      have hms : ∀ fuel, (method (fuel + 1) 112 (.pointer (some ⟨p, o, none⟩)) "Swap").run Try.prog w2 = .ok (107, .slice A n cap) w2 := fun fuel => meth_swap fuel c2
      clear hb2 hh2
      by_cases hyx : y < x
      · have hd : decide (y < x) = true := decide_eq_true hyx
        rw [hd]
        clear hd hyx
        go_wp2_with fail
        (with_reducible refine (swap_any w2 _ n l' HS2.out i j x y hx hy).mono ?_)
        rintro e w3 ⟨rfl, hs3, hm3⟩
        have HS3 := Lib.hid hs3
        have HM3 : Hid (Mod (fun b => sblk (.slice A n cap) = some b) w w3) := HM2.out.trans hm3 (fun _ _ h => h)
        have HPE3 : Hid (List.Perm ((l'.set i y).set j x) l) := (perm_swap hx hy).trans HPE.out
        clear hs3 hm3
        go_wp2_with fail
        go_roundw
        case rel => exact ⟨i, _, rfl, HI1.out, HPE3.out, HS3.out, HM3.out⟩
        case measure => simp [intOf]; exact HI2.out
      · have hd : decide (y < x) = false := decide_eq_false hyx
        rw [hd]
        clear hd hyx
        go_wp2_with fail
        go_end0
        exact ⟨l', rfl, HPE.out, HS2.out, HM2.out⟩

theorem left_of {i n : Nat} (h : ¬ 2 * i + 1 < n) : ((n : Int) ≤ 2 * (i : Int) + 1) := by omega
theorem keep_set {l : List Int} {i j k n : Nat} {x y : Int} (hi : i < n) (hj : j < n) (hk : n ≤ k) : ((l.set i y).set j x)[k]? = l[k]? := by
  rw [List.getElem?_set_ne (by omega), List.getElem?_set_ne (by omega)]
theorem wrap_two {i : Nat} (h : i ≤ 1000000) : IntKind.i64.wrap (2 * (i : Int)) = 2 * (i : Int) ∧ IntKind.i64.wrap (2 * (i : Int) + 1) = 2 * (i : Int) + 1 ∧ IntKind.i64.wrap (2 * (i : Int) + 1 + 1) = 2 * (i : Int) + 1 + 1 := by
  refine ⟨?_, ?_, ?_⟩ <;> (rw [IntKind.wrap_i64]; omega)

def DownPost (w : World) (v : Value) (N n : Nat) (l : List Int) (e : Ending) (w' : World) : Prop :=
  ∃ l' b, e = .returned (.bool b) ∧ List.Perm l' l ∧ (∀ k, n ≤ k → l'[k]? = l[k]?) ∧ Sl w' IT 1 v N (intsV l') ∧ Mod (fun b => sblk v = some b) w w'
theorem same_heap {w w2 : World} {p o N : Nat} {v : Value} {l : List Int} {S : Nat → Prop} {w0 : World} (hb : Below w.heap.size w w2) (hh : w2.heap = w.heap) (h : Sl w IT 1 v N (intsV l)) (c : w.cell? ⟨p, o, none⟩ = some v) (hm : Mod S w0 w) :
    Sl w2 IT 1 v N (intsV l) ∧ w2.cell? ⟨p, o, none⟩ = some v ∧ Mod S w0 w2 :=
  ⟨h.of_blk fun b _ => by rw [hh], (World.cell?_of_block (a := ⟨p, o, none⟩) (by rw [hh])).trans c, hm.trans (Mod.of_below_all hb) (fun _ _ h => h.elim)⟩

set_option maxRecDepth 100000 in
set_option maxHeartbeats 3200000 in
theorem down_any (w : World) (p o : Nat) (v : Value) (N n : Nat) (l : List Int) (hp : w.cell? ⟨p, o, none⟩ = some v) (h : Sl w IT 1 v N (intsV l)) (hne : sblk v ≠ some p) (hnN : n < N) (hN : N ≤ 1000000) :
    Calls Try.prog 81 #[hV p o, .int .i64 0, .int .i64 n] w (DownPost w v N n l) := by
  have H := Lib.hid h
  have hpl := World.block_lt_of_cell? w _ hp
  have hpl : p < w.heap.size := hpl
  have HPL := Lib.hid hpl
  have HNN := Lib.hid hnN
  have HNM := Lib.hid hN
  have HP := Lib.hid hp
  have HNE := Lib.hid hne
  clear h hp hne hpl hnN hN
  unfold hV
  go_enter Try.func81, Try.ntmps81
  go_wp2_with fail
  go_loopw [7] (fun iv wx => ∃ (i : Nat) (l' : List Int), iv = .int .i64 i ∧ i < N ∧ List.Perm l' l ∧ (∀ k, n ≤ k → l'[k]? = l[k]?) ∧ Sl wx IT 1 v N (intsV l') ∧ Mod (fun b => sblk v = some b) w wx) (fun iv _ => N - (intOf iv).toNat)
  case atStart => exact ⟨0, l, rfl, by have := HNN.out; omega, .refl _, fun _ _ => rfl, H.out, Mod.refl _ _⟩
  case round =>
    obtain ⟨i, l', rfl, hiN, hpe, hkp, hs, hm⟩ := hrel
    have HIN := Lib.hid hiN
    have HPE := Lib.hid hpe
    have HKP := Lib.hid hkp
    have HS := Lib.hid hs
    have HM := Lib.hid hm
    have c0 : wr.cell? ⟨p, o, none⟩ = some v := (hm.cell (a := ⟨p, o, none⟩) HPL.out HNE.out).trans HP.out
    have HLN := Lib.hid hs.out
    obtain ⟨A, cap, hv, _, _⟩ := hs.form
    subst hv
    obtain ⟨hw1, hw2, hw3⟩ := wrap_two (i := i) (by have := HNM.out; omega)
    obtain ⟨j1, hj1⟩ : ∃ j1 : Nat, j1 = 2 * i + 1 := ⟨_, rfl⟩
    have hjc : (2 * (i : Int) + 1) = (j1 : Int) := by omega
    obtain ⟨j2, hj2⟩ : ∃ j2 : Nat, j2 = j1 + 1 := ⟨_, rfl⟩
    have hjd : ((j1 : Int) + 1) = (j2 : Int) := by omega
    rw [hjc] at hw2 hw3
    rw [hjd] at hw3
    have HJ1 := Lib.hid hj1
    have HJ2 := Lib.hid hj2
    have hn0 : ¬ ((j1 : Int) < 0) := by omega
    clear hpe hkp hs hm hiN hj1 hj2
    by_cases hlt : j1 < n
    · have HLT := Lib.hid hlt
      have hlt' : (j1 : Int) < (n : Int) := by omega
      have hml := fun fuel => meth_less (p := p) (o := o) fuel c0
      obtain ⟨x, hx⟩ : ∃ x, l'[i]? = some x := ⟨l'[i]'(by rw [HLN.out]; exact HIN.out), List.getElem?_eq_getElem _⟩
      obtain ⟨y1, hy1⟩ : ∃ x, l'[j1]? = some x := ⟨l'[j1]'(by have := HLN.out; have := HNN.out; omega), List.getElem?_eq_getElem _⟩
      clear hlt
      by_cases h2 : j2 < n
      · have H2 := Lib.hid h2
        have hlt2 : (j2 : Int) < (n : Int) := by omega
        obtain ⟨y2, hy2⟩ : ∃ x, l'[j2]? = some x := ⟨l'[j2]'(by have := HLN.out; have := HNN.out; omega), List.getElem?_eq_getElem _⟩
        clear h2
        go_wp2_with fail
        (with_reducible refine (less_any _ _ N l' HS.out j2 j1 y2 y1 hy2 hy1).mono ?_)
        rintro e w2 ⟨rfl, hb2, hh2⟩
        obtain ⟨hs2, c2, hm2⟩ := same_heap hb2 hh2 HS.out c0 HM.out
        have HS2 := Lib.hid hs2
        have HM2 := Lib.hid hm2
        clear hb2 hh2 hs2 hm2 hml
        have hml := fun fuel => meth_less (p := p) (o := o) fuel c2
        by_cases h21 : y2 < y1
        · have hd : decide (y2 < y1) = true := decide_eq_true h21
          rw [hd]
          clear hd h21
          go_wp2_with fail
          (with_reducible refine (less_any _ _ N l' HS2.out j2 i y2 x hy2 hx).mono ?_)
          rintro e w4 ⟨rfl, hb4, hh4⟩
          obtain ⟨hs4, c4, hm4⟩ := same_heap hb4 hh4 HS2.out c2 HM2.out
          have HS4 := Lib.hid hs4
          have HM4 := Lib.hid hm4
          clear hb4 hh4 hs4 hm4
          have hms := fun fuel => meth_swap (p := p) (o := o) fuel c4
          by_cases hyx : y2 < x
          · have hd : decide (y2 < x) = true := decide_eq_true hyx
            rw [hd]
            clear hd hyx
            go_wp2_with fail
            (with_reducible refine (swap_any w4 _ N l' HS4.out i j2 x y2 hx hy2).mono ?_)
            rintro e w5 ⟨rfl, hs5, hm5⟩
            have HS5 := Lib.hid hs5
            have HM5 := Lib.hid (HM4.out.trans hm5 (fun _ _ h => h))
            have HPE5 : Hid (List.Perm ((l'.set i y2).set j2 x) l) := (perm_swap hx hy2).trans HPE.out
            clear hs5 hm5 hms c4
            have hin : i < n := by have := H2.out; have := HJ1.out; have := HJ2.out; omega
            have HKP5 : Hid (∀ k, n ≤ k → ((l'.set i y2).set j2 x)[k]? = l[k]?) := fun k hk => (keep_set hin H2.out hk).trans (HKP.out k hk)
            have HJN : Hid (j2 < N) := Nat.lt_trans H2.out HNN.out
            have HIJ : Hid (i < j2) := by have := HJ1.out; have := HJ2.out; show i < j2; omega
            have HINN := Lib.hid hin
            clear hin
            go_wp2_with fail
            go_roundw
            case rel => exact ⟨j2, _, rfl, HJN.out, HPE5.out, HKP5.out, HS5.out, HM5.out⟩
            case measure => simp [intOf]; have := HIJ.out; have := HIN.out; omega
          · have hd : decide (y2 < x) = false := decide_eq_false hyx
            rw [hd]
            clear hd hyx
            go_wp2_with fail
            go_ret
            exact ⟨l', _, rfl, HPE.out, HKP.out, HS4.out, HM4.out⟩
        · have hd : decide (y2 < y1) = false := decide_eq_false h21
          rw [hd]
          clear hd h21
          go_wp2_with fail
          (with_reducible refine (less_any _ _ N l' HS2.out j1 i y1 x hy1 hx).mono ?_)
          rintro e w4 ⟨rfl, hb4, hh4⟩
          obtain ⟨hs4, c4, hm4⟩ := same_heap hb4 hh4 HS2.out c2 HM2.out
          have HS4 := Lib.hid hs4
          have HM4 := Lib.hid hm4
          clear hb4 hh4 hs4 hm4
          have hms := fun fuel => meth_swap (p := p) (o := o) fuel c4
          by_cases hyx : y1 < x
          · have hd : decide (y1 < x) = true := decide_eq_true hyx
            rw [hd]
            clear hd hyx
            go_wp2_with fail
            (with_reducible refine (swap_any w4 _ N l' HS4.out i j1 x y1 hx hy1).mono ?_)
            rintro e w5 ⟨rfl, hs5, hm5⟩
            have HS5 := Lib.hid hs5
            have HM5 := Lib.hid (HM4.out.trans hm5 (fun _ _ h => h))
            have HPE5 : Hid (List.Perm ((l'.set i y1).set j1 x) l) := (perm_swap hx hy1).trans HPE.out
            clear hs5 hm5 hms c4
            have hin : i < n := by have := HLT.out; have := HJ1.out; have := HJ2.out; omega
            have HKP5 : Hid (∀ k, n ≤ k → ((l'.set i y1).set j1 x)[k]? = l[k]?) := fun k hk => (keep_set hin HLT.out hk).trans (HKP.out k hk)
            have HJN : Hid (j1 < N) := Nat.lt_trans HLT.out HNN.out
            have HIJ : Hid (i < j1) := by have := HJ1.out; have := HJ2.out; show i < j1; omega
            have HINN := Lib.hid hin
            clear hin
            go_wp2_with fail
            go_roundw
            case rel => exact ⟨j1, _, rfl, HJN.out, HPE5.out, HKP5.out, HS5.out, HM5.out⟩
            case measure => simp [intOf]; have := HIJ.out; have := HIN.out; omega
          · have hd : decide (y1 < x) = false := decide_eq_false hyx
            rw [hd]
            clear hd hyx
            go_wp2_with fail
            go_ret
            exact ⟨l', _, rfl, HPE.out, HKP.out, HS4.out, HM4.out⟩
      · have hlt2 : (n : Int) ≤ (j2 : Int) := by omega
        clear h2
        go_wp2_with fail
        (with_reducible refine (less_any _ _ N l' HS.out j1 i y1 x hy1 hx).mono ?_)
        rintro e w4 ⟨rfl, hb4, hh4⟩
        obtain ⟨hs4, c4, hm4⟩ := same_heap hb4 hh4 HS.out c0 HM.out
        have HS4 := Lib.hid hs4
        have HM4 := Lib.hid hm4
        clear hb4 hh4 hs4 hm4
        have hms := fun fuel => meth_swap (p := p) (o := o) fuel c4
        by_cases hyx : y1 < x
        · have hd : decide (y1 < x) = true := decide_eq_true hyx
          rw [hd]
          clear hd hyx
          go_wp2_with fail
          (with_reducible refine (swap_any w4 _ N l' HS4.out i j1 x y1 hx hy1).mono ?_)
          rintro e w5 ⟨rfl, hs5, hm5⟩
          have HS5 := Lib.hid hs5
          have HM5 := Lib.hid (HM4.out.trans hm5 (fun _ _ h => h))
          have HPE5 : Hid (List.Perm ((l'.set i y1).set j1 x) l) := (perm_swap hx hy1).trans HPE.out
          clear hs5 hm5 hms c4
          have hin : i < n := by have := HLT.out; have := HJ1.out; have := HJ2.out; omega
          have HKP5 : Hid (∀ k, n ≤ k → ((l'.set i y1).set j1 x)[k]? = l[k]?) := fun k hk => (keep_set hin HLT.out hk).trans (HKP.out k hk)
          have HJN : Hid (j1 < N) := Nat.lt_trans HLT.out HNN.out
          have HIJ : Hid (i < j1) := by have := HJ1.out; have := HJ2.out; show i < j1; omega
          have HINN := Lib.hid hin
          clear hin
          go_wp2_with fail
          go_roundw
          case rel => exact ⟨j1, _, rfl, HJN.out, HPE5.out, HKP5.out, HS5.out, HM5.out⟩
          case measure => simp [intOf]; have := HIJ.out; have := HIN.out; omega
        · have hd : decide (y1 < x) = false := decide_eq_false hyx
          rw [hd]
          clear hd hyx
          go_wp2_with fail
          go_ret
          exact ⟨l', _, rfl, HPE.out, HKP.out, HS4.out, HM4.out⟩
    · have hge : (n : Int) ≤ (j1 : Int) := by omega
      clear hlt
      go_wp2_with fail
      go_ret
      exact ⟨l', _, rfl, HPE.out, HKP.out, HS.out, HM.out⟩
end Go.Proofs.Ytgdijlpkbbfedaa

namespace Go.Proofs.Ytgdijlpkbbfedaa
open Go.RowKit

/-- Cell o of block p holds numbers. -/
structure FrM (w : World) (p o T : Nat) (cs : Array Value) (v : Value) (n : Nat) (l : List Int) : Prop where
  blk : Blk w p T cs
  at_ : cs[o]? = some v
  sl : Sl w IT 1 v n (intsV l)
  ne : sblk v ≠ some p
theorem FrM.cell {w : World} {p o T n : Nat} {cs : Array Value} {v : Value} {l : List Int} (h : FrM w p o T cs v n l) : w.cell? ⟨p, o, none⟩ = some v := h.blk.cellS h.at_
theorem FrM.frozen {w : World} {p o T n : Nat} {cs : Array Value} {v : Value} {l : List Int} (h : FrM w p o T cs v n l) : w.frozen? ⟨p, o, none⟩ = false := h.blk.frozen o
theorem FrM.wrote {w w' : World} {p o T n n' : Nat} {cs : Array Value} {v v' : Value} {l l' : List Int} {S : Nat → Prop} (h : FrM w p o T cs v n l) (hw : Wrote S w w' p o v') (hs : Sl w' IT 1 v' n' (intsV l')) (hn : sblk v' = sblk v ∨ ∃ q, sblk v' = some q ∧ w.heap.size ≤ q) :
    FrM w' p o T (cs.setIfInBounds o v') v' n' l' := by
  refine ⟨hw.blk _ _ h.blk, ?_, hs, ?_⟩
  · have := (Array.getElem?_eq_some_iff.1 h.at_).1
    simp [this]
  · rcases hn with e | ⟨q, e, hq⟩
    · rw [e]; exact h.ne
    · rw [e]; intro e2; have := Option.some.inj e2; have := h.blk.lt; omega
theorem FrM.turned {w w' : World} {p o T n : Nat} {cs : Array Value} {v : Value} {l l' : List Int} (h : FrM w p o T cs v n l) (hm : Mod (fun b => sblk v = some b) w w') (hs : Sl w' IT 1 v n (intsV l')) : FrM w' p o T cs v n l' :=
  ⟨h.blk.mod hm h.ne, h.at_, hs, h.ne⟩
theorem set_set {cs : Array Value} {o : Nat} {a b : Value} : (cs.setIfInBounds o a).setIfInBounds o b = cs.setIfInBounds o b := by simp

def PushPost (w : World) (p o T : Nat) (cs : Array Value) (v : Value) (n : Nat) (l : List Int) (x : Int) (e : Ending) (w' : World) : Prop :=
  ∃ v' l', e = .returned (.tuple #[]) ∧ List.Perm l' (l ++ [x]) ∧ FrM w' p o T (cs.setIfInBounds o v') v' (n + 1) l' ∧ (sblk v' = sblk v ∨ ∃ q, sblk v' = some q ∧ w.heap.size ≤ q) ∧ Mod (fun b => b = p ∨ sblk v = some b) w w'
def PopPost (w : World) (p o T : Nat) (cs : Array Value) (v : Value) (n : Nat) (l : List Int) (e : Ending) (w' : World) : Prop :=
  ∃ v' l' x, e = .returned (iface x) ∧ List.Perm (x :: l') l ∧ FrM w' p o T (cs.setIfInBounds o v') v' n l' ∧ sblk v' = sblk v ∧ Mod (fun b => b = p ∨ sblk v = some b) w w'

set_option maxRecDepth 100000 in
set_option maxHeartbeats 3200000 in
theorem hpush_any (w : World) (p o T n : Nat) (cs : Array Value) (v : Value) (l : List Int) (h : FrM w p o T cs v n l) (x : Int) (hn : n < 1000000) :
    Calls Try.prog 63 #[hV p o, iface x] w (PushPost w p o T cs v n l x) := by
  have H := Lib.hid h
  have hmp := fun fuel => meth_push w p o fuel
  clear h
  unfold hV
  go_enter Try.func63, Try.ntmps63
  go_wp2_with fail
  (with_reducible refine (npush_any w p o v n l H.out.cell H.out.frozen H.out.sl H.out.ne x (Nat.le_of_lt hn)).mono ?_)
  rintro e w1 ⟨v1, rfl, hs1, hn1, hw1⟩
  have HF1 := Lib.hid (H.out.wrote hw1 hs1 hn1)
  have HN1 := Lib.hid hn1
  have HM1 := Lib.hid hw1.mod
  obtain ⟨A1, cap1, rfl, _, _⟩ := hs1.form
  have c1 := HF1.out.cell
  have hml := fun fuel => meth_len (p := p) (o := o) fuel c1
  clear hs1 hn1 hw1 hmp
  go_wp2_with fail
  (with_reducible refine (len_any w1 A1 (n + 1) cap1).mono ?_)
  rintro e w2 ⟨rfl, rfl⟩
  have hwn := wrap_nat (i := n) (by omega)
  go_wp2_with fail
  (with_reducible refine (up_any w1 p o _ (n + 1) (l ++ [x]) c1 HF1.out.sl HF1.out.ne n (by omega) (by omega)).mono ?_)
  rintro e w3 ⟨l', rfl, hpe, hs3, hm3⟩
  have HF3 := Lib.hid (HF1.out.turned hm3 hs3)
  have HP3 := Lib.hid hpe
  have HM3 : Hid (Mod (fun b => b = p ∨ sblk v = some b) w w3) := HM1.out.trans hm3 (fun b hb he => by
    rcases HN1.out with h | ⟨q, h, hq⟩
    · exact .inr (by rw [← h]; exact he)
    · rw [h] at he; have := Option.some.inj he; omega)
  clear hpe hs3 hm3 hml
  go_wp2_with fail
  go_end0
  exact ⟨_, l', rfl, HP3.out, HF3.out, HN1.out, HM3.out⟩
set_option maxRecDepth 100000 in
set_option maxHeartbeats 3200000 in
theorem hpop_any (w : World) (p o T n : Nat) (cs : Array Value) (v : Value) (l : List Int) (h : FrM w p o T cs v (n + 1) l) (hn : n < 1000000) :
    Calls Try.prog 64 #[hV p o] w (PopPost w p o T cs v n l) := by
  have H := Lib.hid h
  obtain ⟨A, cap, rfl, _, _⟩ := h.sl.form
  have c0 := h.cell
  have hml := fun fuel => meth_len (p := p) (o := o) fuel c0
  have hms := fun fuel => meth_swap (p := p) (o := o) fuel c0
  clear h
  unfold hV
  go_enter Try.func64, Try.ntmps64
  go_wp2_with fail
  (with_reducible refine (len_any w A (n + 1) cap).mono ?_)
  rintro e wq ⟨rfl, rfl⟩
  have hwn := wrap_nat (i := n) (by omega)
  have HL := Lib.hid H.out.sl.out
  obtain ⟨x0, hx0⟩ : ∃ x, l[0]? = some x := ⟨l[0]'(by have := HL.out; omega), List.getElem?_eq_getElem _⟩
  obtain ⟨x1, hx1⟩ : ∃ x, l[n]? = some x := ⟨l[n]'(by have := HL.out; omega), List.getElem?_eq_getElem _⟩
  go_wp2_with fail
  have hsw := swap_any w _ (n + 1) l H.out.sl 0 n x0 x1 hx0 hx1
  rw [show ((0 : Nat) : Int) = 0 from rfl] at hsw
  (with_reducible refine hsw.mono ?_)
  rintro e w1 ⟨rfl, hs1, hm1⟩
  have HF1 := Lib.hid (H.out.turned hm1 hs1)
  have HM1 := Lib.hid hm1
  have HP1 := Lib.hid (perm_swap hx0 hx1)
  have c1 := HF1.out.cell
  clear hs1 hm1 hml hms hsw
  go_wp2_with fail
  (with_reducible refine (down_any w1 p o _ (n + 1) n _ c1 HF1.out.sl HF1.out.ne (by omega) (by omega)).mono ?_)
  rintro e w2 ⟨l2, b, rfl, hpe, hkp, hs2, hm2⟩
  have HF2 := Lib.hid (HF1.out.turned hm2 hs2)
  have HM2 := Lib.hid (HM1.out.trans hm2 (fun _ _ h => h))
  have HP2 := Lib.hid (hpe.trans HP1.out)
  have hmp := fun fuel => meth_pop w2 p o fuel
  have HL2 := Lib.hid HF2.out.sl.out
  obtain ⟨y, hy⟩ : ∃ x, l2[n]? = some x := ⟨l2[n]'(by have := HL2.out; omega), List.getElem?_eq_getElem _⟩
  clear hpe hkp hs2 hm2
  go_wp2_with fail
  (with_reducible refine (npop_any w2 p o _ n l2 HF2.out.cell HF2.out.frozen HF2.out.sl HF2.out.ne y hy).mono ?_)
  rintro e w3 ⟨v3, rfl, hs3, hn3, hw3⟩
  have HF3 := Lib.hid (HF2.out.wrote hw3 hs3 (.inl hn3))
  have HM3 : Hid (Mod (fun b => b = p ∨ sblk (.slice A (n + 1) cap) = some b) w w3) := (HM2.out.mono fun _ _ h => .inr h).trans hw3.mod (fun b _ h => by rcases h with h | h; exact .inl h; exact h.elim)
  have HN3 := Lib.hid hn3
  have HP3 : Hid (List.Perm (y :: l2.take n) l) := by
    refine List.Perm.trans ?_ HP2.out
    have hlt : n < l2.length := by have := HL2.out; omega
    have e : l2 = l2.take n ++ [y] := by
      have h1 := List.take_append_drop n l2
      have h2 : l2.drop n = [y] := by
        rw [List.drop_eq_getElem_cons hlt, (List.getElem?_eq_some_iff.1 hy).2, List.drop_eq_nil_of_le (by have := HL2.out; omega)]
      rw [h2] at h1; exact h1.symm
    exact ((List.perm_append_comm (l₁ := [y]) (l₂ := l2.take n))).trans (by rw [← e])
  clear hs3 hn3 hw3 hmp
  go_wp2_with fail
  go_ret
  exact ⟨v3, l2.take n, y, rfl, HP3.out, by have := HF3.out; exact this, HN3.out, HM3.out⟩
end Go.Proofs.Ytgdijlpkbbfedaa

namespace Go.Proofs.Ytgdijlpkbbfedaa
open Go.RowKit Go.ChangeMaps Go.WideElems Go.WideMaps

structure KeyA where
  kind : Int
  a0 : Int
  a1 : Int
  a2 : Int
  a3 : Int
  deriving DecidableEq
structure EntD where
  key : KeyA
  level : Int
  value : Int
  mask : Nat
def entV (e : EntD) : List Value := [.int .i64 e.key.kind, .int .i64 e.key.a0, .int .i64 e.key.a1, .int .i64 e.key.a2, .int .i64 e.key.a3, .int .i64 e.level, .int .i64 e.value, .int .u64 (e.mask : Int)]
def entsV (l : List EntD) : List Value := l.flatMap entV
theorem entsV_len (l : List EntD) : (entsV l).length = l.length * 8 := by
  induction l with
  | nil => rfl
  | cons a l ih => rw [entsV, List.flatMap_cons, List.length_append, ← entsV, ih]; simp [entV]; omega
theorem entsV_at : ∀ (K : List EntD) (i : Nat) (k : EntD), K[i]? = some k → ∀ j, j < 8 → (entsV K)[i * 8 + j]? = (entV k)[j]?
  | [], i, k, h => by simp at h
  | a :: K, 0, k, h => fun j hj => by
    simp at h; subst h
    rw [entsV, List.flatMap_cons, List.getElem?_append_left (by simp [entV]; omega), Nat.zero_mul, Nat.zero_add]
  | a :: K, i + 1, k, h => fun j hj => by
    simp at h
    rw [entsV, List.flatMap_cons, List.getElem?_append_right (by simp [entV]; omega), ← entsV_at K i k h j hj]
    simp only [entV, List.length_cons, List.length_nil]
    congr 1; omega
abbrev EN := 83
abbrev AR := 71

/-- What an arena holds. -/
structure ArS where
  room : Int
  ents : List EntD
  idx : KeyA → Option Int
  size : Nat
  free : List Int
  count : Nat → Int
  quota : Nat → Int
  added : Nat → List Int
  live : Int
/-- Where it holds it. -/
structure ArR where
  lv : Value
  mb : Nat
  fv : Value
  av : Nat → Value
def arC (R : ArR) (S : ArS) (j : Nat) : Value :=
  if j = 0 then .int .i64 S.room else if j = 1 then R.lv else if j = 2 then .map (some R.mb) else if j = 3 then R.fv else if j < 68 then .int .i64 (S.count (j - 4)) else if j < 132 then .int .i64 (S.quota (j - 68)) else if j < 196 then R.av (j - 132) else .int .i64 S.live
def arCells (R : ArR) (S : ArS) : Array Value := Array.ofFn (n := 197) fun i => arC R S i
theorem arCells_at (R : ArR) (S : ArS) (j : Nat) (h : j < 197) : (arCells R S)[j]? = some (arC R S j) := by simp [arCells, h]
def upd {α : Type} (f : Nat → α) (t : Nat) (x : α) : Nat → α := fun k => if k = t then x else f k
theorem arCells_set {R R' : ArR} {S S' : ArS} {o : Nat} {u : Value} (_ho : o < 197) (h1 : arC R' S' o = u) (h2 : ∀ j, j < 197 → j ≠ o → arC R' S' j = arC R S j) : (arCells R S).setIfInBounds o u = arCells R' S' := by
  apply Array.ext (by simp [arCells])
  intro j hj hj'
  have hj197 : j < 197 := by simpa [arCells] using hj'
  rw [Array.getElem_setIfInBounds (by simp [arCells]; omega)]
  by_cases e : o = j
  · subst e; rw [if_pos rfl]; simp [arCells, h1]
  · rw [if_neg e]; simp [arCells, h2 j hj197 (Ne.symm e)]

set_option maxRecDepth 100000 in
theorem tenant_any (w : World) (t : Int) : Calls Try.prog 29 #[.int .i64 t] w fun e w' => e = .returned (.bool (decide (0 ≤ t ∧ t < 64))) ∧ w = w' := by
  go_enter Try.func29, Try.ntmps29
  by_cases h : 0 ≤ t ∧ t < 64
  · obtain ⟨h1, h2⟩ := h
    go_wp2_with fail
    go_ret
    exact ⟨by simp [h1, h2], rfl⟩
  · by_cases h1 : 0 ≤ t
    · have h2 : ¬ t < 64 := fun h2 => h ⟨h1, h2⟩
      clear h
      go_wp2_with fail
      go_ret
      exact ⟨by simp; omega, rfl⟩
    · clear h
      go_wp2_with fail
      go_ret
      exact ⟨by rw [decide_eq_false (show ¬ (0 ≤ t) by omega)]; rfl, rfl⟩

end Go.Proofs.Ytgdijlpkbbfedaa

namespace Go.Proofs.Ytgdijlpkbbfedaa
open Go.RowKit Go.ChangeMaps Go.WideElems Go.WideMaps

theorem Try.laidOutK : laidOutB Try.prog = true := by kernel_rfl
theorem Try.klKey : KeyLaw Try.prog 80 := deep_law_laid Try.laidOutK (m := 3) (by omega) (of_decide_eq_true (by kernel_rfl)) (by kernel_rfl) (by rw [Try.underlying80])
theorem Try.lawKey : Maps.Keyed Try.prog 80 := Maps.Keyed.of_law Try.klKey
theorem Try.zeroIntK (w : World) : (zeroValue 3).run Try.prog w = .ok (.int .i64 0) w := by kernel_rfl
theorem Try.keyTypeKey : Try.prog.keyType 80 = true := by kernel_rfl
theorem Try.typesSizeK : ∃ m, Try.prog.types.size = m + 3 := ⟨Try.prog.types.size - 3, by have : 3 ≤ Try.prog.types.size := of_decide_eq_true (by kernel_rfl); omega⟩
theorem Try.keyFields : ∃ f0 f1, Try.prog.underlying 80 = some (.struct #[f0, f1]) ∧ f0.offset = 0 ∧ f1.offset = 1 ∧ f0.type = 3 ∧ f1.type = 50 ∧ (f0.name != "_") = true ∧ (f1.name != "_") = true := by
  exact ⟨_, _, Try.underlying80, rfl, rfl, rfl, rfl, by decide, by decide⟩
theorem Try.cellsK5 : Try.prog.cellsOf 80 = 5 := by kernel_rfl
theorem Try.cellsK4 : Try.prog.cellsOf 50 = 4 := by kernel_rfl
theorem Try.cellsK1 : Try.prog.cellsOf 3 = 1 := by kernel_rfl

def KeyA.lits (k : KeyA) : List Lit := [.int .i64 k.kind, .int .i64 k.a0, .int .i64 k.a1, .int .i64 k.a2, .int .i64 k.a3]
def KeyA.val (k : KeyA) : Value := .agg #[.int .i64 k.kind, .int .i64 k.a0, .int .i64 k.a1, .int .i64 k.a2, .int .i64 k.a3]
def KeyA.lit (k : KeyA) : Lit := .string (keyBytes k.lits)
def i64r (x : Int) : Prop := -9223372036854775808 ≤ x ∧ x ≤ 9223372036854775807
def KeyA.ok (k : KeyA) : Prop := i64r k.kind ∧ i64r k.a0 ∧ i64r k.a1 ∧ i64r k.a2 ∧ i64r k.a3
theorem i64r.wf {x : Int} (h : i64r x) : (Lit.int .i64 x).wf = true := by
  obtain ⟨h1, h2⟩ := h
  simp [Lit.wf, IntKind.min, IntKind.max, IntKind.signed, IntKind.bits]; omega
set_option maxRecDepth 100000 in
theorem keyOf_key {k : KeyA} (h : k.ok) : keyOf Try.prog 80 k.val = some k.lit := by
  obtain ⟨w0, w1, w2, w3, w4⟩ := h
  have w0 := w0.wf
  have w1 := w1.wf
  have w2 := w2.wf
  have w3 := w3.wf
  have w4 := w4.wf
  obtain ⟨f0, f1, hu, o0, o1, t0, t1, n0, n1⟩ := Try.keyFields
  obtain ⟨m, hm⟩ := Try.typesSizeK
  unfold keyOf KeyA.val
  rw [hu]
  simp only
  rw [if_pos (by simp [Try.keyTypeKey, Value.formed, hu, Try.cellsK5]), hm]
  unfold Program.keyLits
  simp only [hu, Value.cells]
  rw [if_pos ⟨by rw [Try.cellsK5]; rfl, by simp only [List.all_toArray, List.all_cons, List.all_nil, n0, n1]; rfl⟩]
  simp only [List.mapM_cons, List.mapM_nil, o0, o1, t0, t1, Try.cellsK1, Try.cellsK4]
  simp [Program.keyLits, Try.underlying3, Try.underlying50, Try.cellsK1, w0, KeyA.lit, KeyA.lits]
  rw [if_pos Try.cellsK4.symm, show List.range 4 = [0, 1, 2, 3] from rfl]
  simp [w1, w2, w3, w4]
theorem KeyA.lit_inj {a b : KeyA} (ha : a.ok) (hb : b.ok) (h : a.lit = b.lit) : a = b := by
  have := Try.lawKey.inj (keyOf_key ha) (h ▸ keyOf_key hb)
  unfold KeyA.val at this
  simp at this
  obtain ⟨h0, h1, h2, h3, h4⟩ := this
  cases a; cases b
  simp at h0 h1 h2 h3 h4
  subst h0 h1 h2 h3 h4
  rfl
theorem KeyA.lit_ne {a b : KeyA} (ha : a.ok) (hb : b.ok) (h : a ≠ b) : a.lit ≠ b.lit := fun e => h (KeyA.lit_inj ha hb e)
theorem KeyA.isKey (k : KeyA) : WideAt.IsKeyLit k.lit := trivial

/-- Block b is this map, of c entries. -/
def MapK (w : World) (b c : Nat) (m : KeyA → Option Int) : Prop :=
  ∃ D : DataW Unit, w.ownsMap Try.prog 80 (plainElem Try.prog 3) b c D ∧ Maps.size D = c ∧
    ∀ k : KeyA, k.ok → Maps.has D k.lit = (m k).isSome ∧ ∀ v, m k = some v → D.atKey k.lit (.lit (.int .i64 0)) = .lit (.int .i64 v)
theorem ownsMap_blockK {H : Type} {P : Program} {k : TypeId} {R : Value → Option (DataW H × List MemPlace)} {w w' : World} {b n : Nat} {D : DataW H} (h : w.ownsMap P k R b n D) (e : w'.heap[b]? = w.heap[b]?) : w'.ownsMap P k R b n D := by
  obtain ⟨es, clock, hb, F, hs, hD⟩ := h
  exact ⟨es, clock, e.trans hb, F, hs, hD⟩
theorem ownsMap_tight {H : Type} {P : Program} {k : TypeId} {R : Value → Option (DataW H × List MemPlace)} {w : World} {b n : Nat} {D : DataW H} (h : w.ownsMap P k R b n D) : w.ownsMap P k R b (Maps.size D) D := by
  obtain ⟨es, clock, hb, F, hs, hD⟩ := h
  refine ⟨es, clock, hb, F, ?_, hD⟩
  rw [hD]
  simp [Maps.size, length_sorted]
section
variable {w w' : World} {b c : Nat} {m : KeyA → Option Int}
theorem MapK.of_block (h : MapK w b c m) (e : w'.heap[b]? = w.heap[b]?) : MapK w' b c m := by obtain ⟨D, h1, h2⟩ := h; exact ⟨D, ownsMap_blockK h1 e, h2⟩
theorem MapK.lt (h : MapK w b c m) : b < w.heap.size := by obtain ⟨D, h1, _⟩ := h; exact h1.lt
theorem MapK.made (w : World) : MapK (w.alloc (.map #[] 0)) w.heap.size 0 (fun _ => none) := ⟨_, World.ownsMap_made w _ _ _, rfl, fun _ _ => ⟨rfl, fun _ h => by cases h⟩⟩
theorem turned_modK {w w' : World} {b : Nat} (h : w.mapTurned w' b) : Mod (fun k => k = b) w w' := by
  have hg := h.grown
  exact ⟨hg.os, hg.tape, hg.output, hg.size, fun k hk hn => hg.block k hk (by simpa using hn)⟩
/-- No block of cells is a map. -/
theorem MapK.ne (h : MapK w b c m) {p t : Nat} {cs : Array Value} (hp : Blk w p t cs) : b ≠ p := by
  rintro rfl
  obtain ⟨D, ⟨es, clock, hb, _⟩, _⟩ := h
  unfold Blk at hp
  rw [hb] at hp
  cases hp
set_option maxRecDepth 100000 in
/-- 'v, ok := m[k]'. -/
theorem MapK.look (h : MapK w b c m) {k : KeyA} (hk : k.ok) :
    ∃ v, (Instr.lookup 65 (.map (some b)) k.val true).run Try.prog w = .ok (.tuple #[.int .i64 v, .bool (m k).isSome]) w ∧ ∀ x, m k = some x → v = x := by
  obtain ⟨D, hown, _, h1⟩ := h
  obtain ⟨v, ps, hrun, hv⟩ := hown.look_ok Try.lawKey Try.underlying65 (Try.zeroIntK w) (plainElem_int Try.underlying3 (by decide)) (keyOf_key hk)
  obtain ⟨x, rfl, hx, _⟩ := plainElem_int_inv Try.underlying3 hv
  refine ⟨x, by rw [hrun, (h1 k hk).1], fun y hy => ?_⟩
  have h2 := (h1 k hk).2 y hy
  simp only [Prod.mk.injEq] at hx
  rw [h2] at hx
  have := hx.1
  injection this with this
  injection this with _ this
  exact this.symm
set_option maxRecDepth 100000 in
/-- 'm[k] = v', k being new. -/
theorem MapK.put (h : MapK w b c m) {k : KeyA} (hk : k.ok) (hn : m k = none) (hc : c < maxLen) {v : Int} (hv : i64r v) :
    ∃ w', (Instr.mapUpdate 65 (.map (some b)) k.val (.int .i64 v)).run Try.prog w = .ok () w' ∧ MapK w' b (c + 1) (fun k' => if k' = k then some v else m k') ∧ Mod (fun q => q = b) w w' := by
  obtain ⟨D, hown, hs, h1⟩ := h
  obtain ⟨w', u1, u2, u3⟩ := hown.store Try.lawKey Try.underlying65 hc (keyOf_key hk) (plainElem_int Try.underlying3 hv.wf)
  refine ⟨w', u1, ⟨_, u2, ?_, fun e he => ?_⟩, turned_modK u3⟩
  · rw [Maps.size_put (hown.tidy Try.lawKey), hs, (h1 k hk).1, hn]; rfl
  · by_cases hce : e = k
    · subst hce
      simp only [if_pos]
      refine ⟨Maps.has_put_same hown.isMap e.isKey _, fun x hx => ?_⟩
      rw [Maps.atKey_put_same hown.isMap e.isKey]
      injection hx with hx; rw [hx]
    · simp only [if_neg hce]
      obtain ⟨g1, g2⟩ := h1 e he
      refine ⟨(Maps.has_put_other (KeyA.lit_ne he hk hce) _).trans g1, fun x hx => ?_⟩
      rw [Maps.atKey_put_other (KeyA.lit_ne he hk hce)]
      exact g2 x hx
/-- 'delete(m, k)', k being there. -/
theorem MapK.drop (h : MapK w b c m) {k : KeyA} (hk : k.ok) {v : Int} (hn : m k = some v) (ty : TypeId) :
    ∃ w', (Builtin.delete_ #[65, 80] ty #[.map (some b), k.val]).run Try.prog w = .ok (.tuple #[]) w' ∧ MapK w' b (c - 1) (fun k' => if k' = k then none else m k') ∧ Mod (fun q => q = b) w w' := by
  obtain ⟨D, hown, hs, h1⟩ := h
  obtain ⟨w', u1, u2, u3⟩ := hown.drop Try.lawKey Try.underlying65 (keyOf_key hk) ty
  have hsz := Maps.size_del (k := k.lit) (hown.tidy Try.lawKey)
  rw [(h1 k hk).1, hn, hs] at hsz
  have hsz' : Maps.size (D.del k.lit) = c - 1 := by simp at hsz; omega
  refine ⟨w', u1, ⟨_, ?_, hsz', fun e he => ?_⟩, turned_modK u3⟩
  · have := ownsMap_tight u2
    rw [hsz'] at this
    exact this
  · by_cases hce : e = k
    · subst hce
      simp only [if_pos]
      exact ⟨Maps.has_del_same .., fun x hx => by cases hx⟩
    · simp only [if_neg hce]
      obtain ⟨g1, g2⟩ := h1 e he
      refine ⟨(Maps.has_del_other (KeyA.lit_ne he hk hce)).trans g1, fun x hx => ?_⟩
      rw [Maps.atKey_del_other (KeyA.lit_ne he hk hce)]
      exact g2 x hx
end
end Go.Proofs.Ytgdijlpkbbfedaa

namespace Go.Proofs.Ytgdijlpkbbfedaa
open Go.RowKit

theorem bit_test (m t : Nat) (hm : m < 18446744073709551616) : (bits .and .u64 ((m : Int) / 2 ^ t) 1 == 1) = m.testBit t := by
  have e : ((m : Int) / 2 ^ t) = ((m / 2 ^ t : Nat) : Int) := by simp
  have hl : m / 2 ^ t < 18446744073709551616 := Nat.lt_of_le_of_lt (Nat.div_le_self _ _) hm
  rw [e, show (1 : Int) = ((1 : Nat) : Int) from rfl, u64_and_nat _ 1 hl (by decide), nat_mask1, Nat.testBit_eq_decide_div_mod_eq]
  by_cases h : m / 2 ^ t % 2 = 1
  · simp [h]
  · have h0 : m / 2 ^ t % 2 = 0 := by omega
    rw [h0]; decide
def setB (m t : Nat) : Nat := m ||| 2 ^ t
def clrB (m t : Nat) : Nat := m &&& (18446744073709551615 - 2 ^ t)
theorem pow_lt64 {t : Nat} (h : t < 64) : 2 ^ t < 18446744073709551616 := by
  have := Nat.pow_lt_pow_right (a := 2) (by decide) h
  rw [show (2 : Nat) ^ 64 = 18446744073709551616 by decide] at this
  exact this
theorem setB_lt {m t : Nat} (hm : m < 18446744073709551616) (ht : t < 64) : setB m t < 18446744073709551616 := by
  have := Nat.or_lt_two_pow (n := 64) (x := m) (y := 2 ^ t) (by rw [show (2 : Nat) ^ 64 = 18446744073709551616 by decide]; exact hm) (by rw [show (2 : Nat) ^ 64 = 18446744073709551616 by decide]; exact pow_lt64 ht)
  rw [show (2 : Nat) ^ 64 = 18446744073709551616 by decide] at this
  exact this
theorem clrB_lt {m t : Nat} (hm : m < 18446744073709551616) : clrB m t < 18446744073709551616 := Nat.lt_of_le_of_lt Nat.and_le_left hm
theorem setB_bit {m t i : Nat} : (setB m t).testBit i = (m.testBit i || decide (t = i)) := by
  unfold setB; rw [Nat.testBit_or, Nat.testBit_two_pow]
theorem clrB_bit {m t i : Nat} (hm : m < 18446744073709551616) (ht : t < 64) : (clrB m t).testBit i = (m.testBit i && !decide (t = i)) := by
  unfold clrB
  rw [Nat.testBit_and, show 18446744073709551615 - 2 ^ t = 2 ^ 64 - (2 ^ t + 1) by rw [show (2 : Nat) ^ 64 = 18446744073709551616 by decide]; omega, Nat.testBit_two_pow_sub_succ (by rw [show (2 : Nat) ^ 64 = 18446744073709551616 by decide]; exact pow_lt64 ht), Nat.testBit_two_pow]
  by_cases hi : i < 64
  · simp [hi]
  · have : m.testBit i = false := Nat.testBit_lt_two_pow (Nat.lt_of_lt_of_le hm (by
      rw [show 18446744073709551616 = 2 ^ 64 by decide]; exact Nat.pow_le_pow_right (by decide) (by omega)))
    simp [this]

structure ArM (w : World) (p : Nat) (R : ArR) (S : ArS) : Prop where
  blk : Blk w p AR (arCells R S)
  list : Sl w EN 8 R.lv S.ents.length (entsV S.ents)
  idx : MapK w R.mb S.size S.idx
  free : Sl w IT 1 R.fv S.free.length (intsV S.free)
  added : ∀ t, t < 64 → Sl w IT 1 (R.av t) (S.added t).length (intsV (S.added t))
  sep1 : ∀ t, t < 64 → ∀ b, sblk R.fv = some b → sblk (R.av t) ≠ some b
  sep2 : ∀ t t', t < 64 → t' < 64 → t ≠ t' → ∀ b, sblk (R.av t) = some b → sblk (R.av t') ≠ some b
  masks : ∀ e ∈ S.ents, e.mask < 18446744073709551616
/-- The blocks that an arena has. -/
def Own (p : Nat) (R : ArR) (b : Nat) : Prop := b = p ∨ b = R.mb ∨ sblk R.lv = some b ∨ sblk R.fv = some b ∨ ∃ t, t < 64 ∧ sblk (R.av t) = some b
/-- A step of an arena: other old blocks are left alone, new blocks alone are added. -/
structure Step (p : Nat) (R R' : ArR) (w w' : World) : Prop where
  mod : Mod (Own p R) w w'
  own : ∀ b, Own p R' b → Own p R b ∨ w.heap.size ≤ b
theorem Step.refl (p : Nat) (R : ArR) (w : World) : Step p R R w w := ⟨Mod.refl _ _, fun _ h => .inl h⟩
theorem Step.trans {p : Nat} {R R1 R2 : ArR} {w w1 w2 : World} (h : Step p R R1 w w1) (k : Step p R1 R2 w1 w2) : Step p R R2 w w2 :=
  ⟨h.mod.trans k.mod fun b hb ho => by
    rcases h.own b ho with h1 | h1
    · exact h1
    · omega, fun b hb => by
    rcases k.own b hb with h1 | h1
    · exact h.own b h1
    · exact .inr (Nat.le_trans h.mod.size h1)⟩
section
variable {w w' : World} {p : Nat} {R : ArR} {S : ArS}
theorem ArM.c (h : ArM w p R S) (j : Nat) (hj : j < 197) : w.cell? ⟨p, j, none⟩ = some (arC R S j) := h.blk.cellS (arCells_at R S j hj)
theorem ArM.f (h : ArM w p R S) (j : Nat) : w.frozen? ⟨p, j, none⟩ = false := h.blk.frozen j
theorem ArM.cRoom (h : ArM w p R S) : w.cell? ⟨p, 0, none⟩ = some (.int .i64 S.room) := (h.c 0 (by decide)).trans rfl
theorem ArM.cList (h : ArM w p R S) : w.cell? ⟨p, 1, none⟩ = some R.lv := (h.c 1 (by decide)).trans rfl
theorem ArM.cIdx (h : ArM w p R S) : w.cell? ⟨p, 2, none⟩ = some (.map (some R.mb)) := (h.c 2 (by decide)).trans rfl
theorem ArM.cFree (h : ArM w p R S) : w.cell? ⟨p, 3, none⟩ = some R.fv := (h.c 3 (by decide)).trans rfl
theorem ArM.cCount (h : ArM w p R S) {t : Nat} (ht : t < 64) : w.cell? ⟨p, 4 + t, none⟩ = some (.int .i64 (S.count t)) := by
  rw [h.c (4 + t) (by omega)]; unfold arC
  rw [if_neg (by omega), if_neg (by omega), if_neg (by omega), if_neg (by omega), if_pos (by omega), Nat.add_sub_cancel_left]
theorem ArM.cQuota (h : ArM w p R S) {t : Nat} (ht : t < 64) : w.cell? ⟨p, 68 + t, none⟩ = some (.int .i64 (S.quota t)) := by
  rw [h.c (68 + t) (by omega)]; unfold arC
  rw [if_neg (by omega), if_neg (by omega), if_neg (by omega), if_neg (by omega), if_neg (by omega), if_pos (by omega), Nat.add_sub_cancel_left]
theorem ArM.cAdded (h : ArM w p R S) {t : Nat} (ht : t < 64) : w.cell? ⟨p, 132 + t, none⟩ = some (R.av t) := by
  rw [h.c (132 + t) (by omega)]; unfold arC
  rw [if_neg (by omega), if_neg (by omega), if_neg (by omega), if_neg (by omega), if_neg (by omega), if_neg (by omega), if_pos (by omega), Nat.add_sub_cancel_left]
theorem ArM.cLive (h : ArM w p R S) : w.cell? ⟨p, 196, none⟩ = some (.int .i64 S.live) := (h.c 196 (by decide)).trans rfl
/-- Another's doings leave an arena be. -/
theorem ArM.keep {T : Nat → Prop} (h : ArM w p R S) (hm : Mod T w w') (hT : ∀ b, Own p R b → ¬ T b) : ArM w' p R S :=
  ⟨h.blk.mod hm (hT _ (.inl rfl)), h.list.mod hm fun _b hb => hT _ (.inr (.inr (.inl hb))), h.idx.of_block (hm.block _ h.idx.lt (hT _ (.inr (.inl rfl)))), h.free.mod hm fun _b hb => hT _ (.inr (.inr (.inr (.inl hb)))),
    fun t ht => (h.added t ht).mod hm fun _b hb => hT _ (.inr (.inr (.inr (.inr ⟨t, ht, hb⟩)))), h.sep1, h.sep2, h.masks⟩
theorem ArM.drew (h : ArM w p R S) : ArM w.drew p R S := ⟨h.blk, h.list, h.idx.of_block rfl, h.free, h.added, h.sep1, h.sep2, h.masks⟩
theorem ArM.own_lt (h : ArM w p R S) {b : Nat} (hb : Own p R b) : b < w.heap.size := by
  rcases hb with rfl | rfl | hb | hb | ⟨t, ht, hb⟩
  · exact h.blk.lt
  · exact h.idx.lt
  · exact (h.list.lt hb).1
  · exact (h.free.lt hb).1
  · exact ((h.added t ht).lt hb).1
theorem ArM.ents (h : ArM w p R S) (hn : 0 < S.ents.length) : ∃ b off cap, R.lv = .slice (some ⟨b, off, none⟩) S.ents.length cap ∧ S.ents.length ≤ cap ∧ cap ≤ maxLen ∧ (∀ (id : Nat) (e : EntD) (j : Nat) u, S.ents[id]? = some e → (entV e)[j]? = some u → w.cell? ⟨b, off + id * 8 + j, none⟩ = some u) ∧ ∀ j, w.frozen? ⟨b, j, none⟩ = false := by
  obtain ⟨b, off, cap, hlv, hc1, hc2, hlt2, hc, hf', _⟩ := h.list.at hn
  refine ⟨b, off, cap, hlv, hc1, hc2, fun id e j u he hu => ?_, hf'⟩
  have hj : j < 8 := by have := (List.getElem?_eq_some_iff.1 hu).1; simpa [entV] using this
  rw [Nat.add_assoc]
  exact hc _ _ ((entsV_at _ id e he j hj).trans hu)
theorem ArM.list_ne (h : ArM w p R S) {b : Nat} (hb : sblk R.lv = some b) : b ≠ p ∧ b ≠ R.mb ∧ sblk R.fv ≠ some b ∧ ∀ t, t < 64 → sblk (R.av t) ≠ some b := by
  obtain ⟨_, cs, hk⟩ := h.list.lt hb
  refine ⟨fun e => ?_, fun e => ?_, fun e => ?_, fun t ht e => ?_⟩
  · subst e; exact absurd (hk.inj h.blk).1 (by decide)
  · subst e; exact h.idx.ne hk rfl
  · obtain ⟨_, cs', hk'⟩ := h.free.lt e; exact absurd (hk.inj hk').1 (by decide)
  · obtain ⟨_, cs', hk'⟩ := (h.added t ht).lt e; exact absurd (hk.inj hk').1 (by decide)
theorem ArM.p_ne (h : ArM w p R S) : p ≠ R.mb ∧ sblk R.lv ≠ some p ∧ sblk R.fv ≠ some p ∧ ∀ t, t < 64 → sblk (R.av t) ≠ some p := by
  refine ⟨fun e => h.idx.ne h.blk e.symm, fun e => (h.list_ne e).1 rfl, fun e => ?_, fun t ht e => ?_⟩
  · obtain ⟨_, cs', hk'⟩ := h.free.lt e; exact absurd (hk'.inj h.blk).1 (by decide)
  · obtain ⟨_, cs', hk'⟩ := (h.added t ht).lt e; exact absurd (hk'.inj h.blk).1 (by decide)
theorem ArM.mb_ne (h : ArM w p R S) : sblk R.lv ≠ some R.mb ∧ sblk R.fv ≠ some R.mb ∧ ∀ t, t < 64 → sblk (R.av t) ≠ some R.mb := by
  refine ⟨fun e => (h.list_ne e).2.1 rfl, fun e => ?_, fun t ht e => ?_⟩
  · obtain ⟨_, cs', hk'⟩ := h.free.lt e; exact h.idx.ne hk' rfl
  · obtain ⟨_, cs', hk'⟩ := (h.added t ht).lt e; exact h.idx.ne hk' rfl
/-- A number of the arena's own block is written. -/
theorem ArM.put (h : ArM w p R S) {j : Nat} {u : Value} {S' : ArS} (he : (arCells R S).setIfInBounds j u = arCells R S') (h1 : S'.ents = S.ents) (h2 : S'.idx = S.idx) (h3 : S'.size = S.size) (h4 : S'.free = S.free) (h5 : S'.added = S.added) :
    ArM (w.setCell ⟨p, j, none⟩ u) p R S' := by
  obtain ⟨n1, n2, n3, n4⟩ := h.p_ne
  refine ⟨by rw [← he]; exact h.blk.set j u, by rw [h1]; exact h.list.far (p := ⟨p, j, none⟩) n2 u, by rw [h2, h3]; exact h.idx.of_block (Below.heap_setCell w ⟨p, j, none⟩ u R.mb n1.symm), by rw [h4]; exact h.free.far (p := ⟨p, j, none⟩) n3 u, fun t ht => by rw [h5]; exact (h.added t ht).far (p := ⟨p, j, none⟩) (n4 t ht) u, h.sep1, h.sep2, by rw [h1]; exact h.masks⟩
end
end Go.Proofs.Ytgdijlpkbbfedaa

namespace Go.Proofs.Ytgdijlpkbbfedaa
open Go.RowKit

def entAt (S : ArS) (id : Int) : Option EntD := if 2 ≤ id then S.ents[id.toNat]? else none
def ownsB (S : ArS) (t : Nat) (id kind : Int) : Bool := (kind == 0 && (id == 0 || id == 1)) || (match entAt S id with | some e => e.key.kind == kind && e.mask.testBit t | none => false)

set_option maxRecDepth 100000 in
set_option maxHeartbeats 3200000 in
theorem owns_any (w : World) (p : Nat) (R : ArR) (S : ArS) (h : ArM w p R S) (hlen : 2 ≤ S.ents.length) (t : Nat) (ht : t < 64) (id kind : Int) :
    Calls Try.prog 34 #[.pointer (some ⟨p, 0, none⟩), .int .i64 t, .int .i64 id, .int .i64 kind] w fun e w' => e = .returned (.bool (ownsB S t id kind)) ∧ w = w' := by
  obtain ⟨b, off, cap, hlv, hc1, hc2, hc, _⟩ := h.ents (by omega)
  have c0 := h.cList
  rw [hlv] at c0
  have hmk := h.masks
  have HMK := Lib.hid hmk
  have HC := Lib.hid hc
  have k4 : (t : Int) < 64 := by omega
  clear h hc hmk hlv
  generalize hL : S.ents.length = n at *
  have HL := Lib.hid hL
  clear hL
  go_enter Try.func34, Try.ntmps34
  by_cases h0 : kind = 0 ∧ (id = 0 ∨ id = 1)
  · obtain ⟨rfl, hid⟩ := h0
    have HR : Hid (ownsB S t id 0 = true) := by show ownsB S t id 0 = true; rcases hid with rfl | rfl <;> simp [ownsB]
    rcases hid with rfl | rfl
    · go_wp2_with fail
      go_ret
      exact ⟨by rw [HR.out]; rfl, rfl⟩
    · go_wp2_with fail
      go_ret
      exact ⟨by rw [HR.out]; rfl, rfl⟩
  · have hR : ownsB S t id kind = (match entAt S id with | some e => e.key.kind == kind && e.mask.testBit t | none => false) := by
      unfold ownsB
      have : (kind == 0 && (id == 0 || id == 1)) = false := by
        rw [Bool.eq_false_iff]; intro e; simp at e; exact h0 e
      rw [this, Bool.false_or]
    have HR := Lib.hid hR
    have hk : (kind = 0 ∧ ¬ id = 0 ∧ ¬ id = 1) ∨ ¬ kind = 0 := by omega
    clear h0 hR
    by_cases h2 : 2 ≤ id
    · by_cases h3 : id < n
      · obtain ⟨i, rfl⟩ : ∃ i : Nat, id = i := ⟨id.toNat, by omega⟩
        obtain ⟨e, he⟩ : ∃ e, S.ents[i]? = some e := ⟨S.ents[i]'(by have := HL.out; omega), List.getElem?_eq_getElem _⟩
        have HA : Hid (ownsB S t i kind = (e.key.kind == kind && e.mask.testBit t)) := by
          show _ = _
          rw [HR.out]; unfold entAt; rw [if_pos h2, Int.toNat_natCast, he]
        have c1 : w.cell? ⟨b, off + i * 8, none⟩ = some (.int .i64 e.key.kind) := HC.out i e 0 _ he rfl
        have c2 : w.cell? ⟨b, off + i * 8 + 7, none⟩ = some (.int .u64 (e.mask : Int)) := HC.out i e 7 _ he rfl
        have hbit := bit_test e.mask t (HMK.out e (List.mem_of_getElem? he))
        clear he
        rcases hk with ⟨rfl, k0, k1⟩ | k0
        · have e0 := beq_eq_false_iff_ne.2 k0
          have e1 := beq_eq_false_iff_ne.2 k1
          by_cases hke : e.key.kind = 0
          · go_wp2_with fail
            go_ret
            exact ⟨by rw [HA.out, hke]; simp, rfl⟩
          · go_wp2_with fail
            go_ret
            exact ⟨by rw [HA.out]; simp [hke], rfl⟩
        · by_cases hke : e.key.kind = kind
          · go_wp2_with fail
            go_ret
            exact ⟨by rw [HA.out, hke]; simp, rfl⟩
          · go_wp2_with fail
            go_ret
            exact ⟨by rw [HA.out]; simp [hke], rfl⟩
      · have HA : Hid (ownsB S t id kind = false) := by
          show _ = _
          rw [HR.out]; unfold entAt; rw [if_pos h2, List.getElem?_eq_none (by have := HL.out; omega)]
        rcases hk with ⟨rfl, k0, k1⟩ | k0
        · have e0 := beq_eq_false_iff_ne.2 k0
          have e1 := beq_eq_false_iff_ne.2 k1
          go_wp2_with fail
          go_ret
          exact ⟨by rw [HA.out]; rfl, rfl⟩
        · go_wp2_with fail
          go_ret
          exact ⟨by rw [HA.out]; rfl, rfl⟩
    · have HA : Hid (ownsB S t id kind = false) := by
        show _ = _
        rw [HR.out]; unfold entAt; rw [if_neg h2]
      rcases hk with ⟨rfl, k0, k1⟩ | k0
      · have e0 := beq_eq_false_iff_ne.2 k0
        have e1 := beq_eq_false_iff_ne.2 k1
        go_wp2_with fail
        go_ret
        exact ⟨by rw [HA.out]; rfl, rfl⟩
      · go_wp2_with fail
        go_ret
        exact ⟨by rw [HA.out]; rfl, rfl⟩

set_option maxRecDepth 100000 in
theorem count_any (w : World) (p : Nat) (R : ArR) (S : ArS) (h : ArM w p R S) (t : Nat) (ht : t < 64) :
    Calls Try.prog 15 #[.pointer (some ⟨p, 0, none⟩), .int .i64 t] w fun e w' => e = .returned (.int .i64 (S.count t)) ∧ w = w' := by
  have c0 := h.cCount ht
  have k4 : (t : Int) < 64 := by omega
  clear h
  go_enter Try.func15, Try.ntmps15
  go_wp2_with fail
  (with_reducible refine (tenant_any w t).mono ?_)
  rintro e wq ⟨rfl, rfl⟩
  rw [decide_eq_true (show 0 ≤ (t : Int) ∧ (t : Int) < 64 by omega)]
  go_wp2_with fail
  go_ret
  exact ⟨rfl, rfl⟩
end Go.Proofs.Ytgdijlpkbbfedaa

namespace Go.Proofs.Ytgdijlpkbbfedaa
open Go.RowKit

theorem Sl.putAt {w : World} {t : TypeId} {b off n cap sz : Nat} {xs : List Value} (h : Sl w t sz (.slice (some ⟨b, off, none⟩) n cap) n xs) {i : Nat} (hi : i < n * sz) (u : Value) :
    Sl (w.setCell ⟨b, off + i, none⟩ u) t sz (.slice (some ⟨b, off, none⟩) n cap) n (xs.set i u) := by
  obtain ⟨h1, A, cap', e, h2, h3, h4, h5⟩ := h
  injection e with e1 _ e2
  subst e1; subst e2
  obtain ⟨cs, c1, c2, c3, c4⟩ := h5 _ rfl
  refine ⟨by rw [List.length_set]; exact h1, _, _, rfl, h2, h3, (fun h => nomatch h), fun a ha => ?_⟩
  injection ha with ha; subst ha
  refine ⟨cs.setIfInBounds (off + i) u, rfl, c2.set _ _, by rw [Array.size_setIfInBounds]; exact c3, ?_⟩
  rw [← c4]
  simp only at c3 ⊢
  have hm : n * sz ≤ cap * sz := Nat.mul_le_mul_right sz h2
  apply List.ext_getElem?
  intro j
  simp only [Array.toList_setIfInBounds, List.getElem?_set, List.getElem?_take, List.getElem?_drop, List.length_take, List.length_drop, Array.length_toList]
  have a1 : off + i < cs.size := by omega
  have a2 : i < min (n * sz) (cs.size - off) := by omega
  by_cases hij : i = j
  · subst hij
    simp [hi, a1, a2]
  · have : off + i ≠ off + j := by omega
    simp [hij]
theorem entsV_set : ∀ (l : List EntD) (i : Nat) (e : EntD) (m : Nat), l[i]? = some e → (entsV l).set (i * 8 + 7) (.int .u64 (m : Int)) = entsV (l.set i { e with mask := m })
  | [], i, e, m, h => by simp at h
  | a :: l, 0, e, m, h => by
    simp at h; subst h
    simp [entsV, entV]
  | a :: l, i + 1, e, m, h => by
    have ih := entsV_set l i e m (by simpa using h)
    have e1 : entsV (a :: l) = entV a ++ entsV l := rfl
    have e2 : entsV ((a :: l).set (i + 1) { e with mask := m }) = entV a ++ entsV (l.set i { e with mask := m }) := rfl
    rw [e1, e2, ← ih, List.set_append_right _ _ (by simp [entV]; omega)]
    congr 2
    simp [entV]; omega
section
variable {w w' : World} {p : Nat} {R : ArR} {S : ArS}
theorem arCells_ents (R : ArR) (S : ArS) (l : List EntD) : arCells R { S with ents := l } = arCells R S := rfl
/-- An entry's mask is written. -/
theorem ArM.mask (h : ArM w p R S) {b off cap : Nat} (hlv : R.lv = .slice (some ⟨b, off, none⟩) S.ents.length cap) {i : Nat} {e : EntD} (he : S.ents[i]? = some e) {m : Nat} (hm : m < 18446744073709551616) :
    ArM (w.setCell ⟨b, off + i * 8 + 7, none⟩ (.int .u64 (m : Int))) p R { S with ents := S.ents.set i { e with mask := m } } := by
  have hi := (List.getElem?_eq_some_iff.1 he).1
  obtain ⟨n1, n2, n3, n4⟩ := h.list_ne (b := b) (by rw [hlv]; rfl)
  refine ⟨?_, ?_, ?_, ?_, ?_, h.sep1, h.sep2, ?_⟩
  · rw [arCells_ents]; exact h.blk.far (p := ⟨b, off + i * 8 + 7, none⟩) (by show p ≠ b; exact Ne.symm n1) _
  · have hl := h.list
    rw [hlv] at hl ⊢
    have := hl.putAt (i := i * 8 + 7) (by omega) (.int .u64 (m : Int))
    rw [entsV_set _ _ _ _ he, ← Nat.add_assoc] at this
    show Sl _ EN 8 _ (S.ents.set i _).length (entsV (S.ents.set i _))
    rw [List.length_set]; exact this
  · exact h.idx.of_block (Below.heap_setCell w ⟨b, off + i * 8 + 7, none⟩ _ R.mb (Ne.symm n2))
  · exact h.free.far (p := ⟨b, off + i * 8 + 7, none⟩) n3 _
  · exact fun t ht => (h.added t ht).far (p := ⟨b, off + i * 8 + 7, none⟩) (n4 t ht) _
  · intro e' he'
    rcases List.mem_or_eq_of_mem_set he' with h1 | h1
    · exact h.masks _ h1
    · rw [h1]; exact hm
theorem Step.set (_h : ArM w p R S) {q : Addr} (hq : Own p R q.block) (u : Value) : Step p R R w (w.setCell q u) := ⟨(Mod.refl _ _).set (fun _ => hq) u, fun _ h => .inl h⟩
theorem Step.drew {R' : ArR} (h : Step p R R' w w') : Step p R R' w w'.drew := ⟨h.mod.drew, h.own⟩
theorem Own.list {b off n cap : Nat} (hlv : R.lv = .slice (some ⟨b, off, none⟩) n cap) : Own p R b := .inr (.inr (.inl (by rw [hlv]; rfl)))
theorem arCells_count (R : ArR) (S : ArS) {t : Nat} (ht : t < 64) (x : Int) : (arCells R S).setIfInBounds (4 + t) (.int .i64 x) = arCells R { S with count := upd S.count t x } := by
  refine arCells_set (by omega) ?_ fun j hj hne => ?_
  · unfold arC
    rw [if_neg (by omega), if_neg (by omega), if_neg (by omega), if_neg (by omega), if_pos (by omega), Nat.add_sub_cancel_left]
    simp [upd]
  · unfold arC upd
    by_cases h : j < 68
    · by_cases h4 : 4 ≤ j
      · simp only
        rw [if_neg (show ¬ j - 4 = t by omega)]
      · rcases (by omega : j = 0 ∨ j = 1 ∨ j = 2 ∨ j = 3) with rfl | rfl | rfl | rfl <;> rfl
    · simp only [h, if_false]
end
theorem wrap_pow {t : Nat} (ht : t < 64) : IntKind.u64.wrap (2 ^ t) = ((2 ^ t : Nat) : Int) := by
  have h := pow_lt64 ht
  have e : ((2 : Int) ^ t) = ((2 ^ t : Nat) : Int) := by simp
  rw [e, IntKind.wrap_u64]
  generalize 2 ^ t = q at h ⊢
  exact Int.emod_eq_of_lt (Int.natCast_nonneg _) (Int.ofNat_lt.2 h)
theorem clr_bits {m t : Nat} (hm : m < 18446744073709551616) (ht : t < 64) : bits .andNot .u64 (m : Int) (IntKind.u64.wrap (2 ^ t)) = ((clrB m t : Nat) : Int) := by
  rw [wrap_pow ht, u64_andNot_nat _ _ hm (pow_lt64 ht)]; rfl
theorem set_bits {m t : Nat} (hm : m < 18446744073709551616) (ht : t < 64) : bits .or .u64 (m : Int) (IntKind.u64.wrap (2 ^ t)) = ((setB m t : Nat) : Int) := by
  rw [wrap_pow ht, u64_or_nat _ _ hm (pow_lt64 ht)]; rfl
/-- What lose does. -/
def loseS (S : ArS) (t i : Nat) : ArS := match S.ents[i]? with
  | some e => if e.mask.testBit t then { S with ents := S.ents.set i { e with mask := clrB e.mask t }, count := upd S.count t (S.count t - 1) } else S
  | none => S

end Go.Proofs.Ytgdijlpkbbfedaa

namespace Go.Proofs.Ytgdijlpkbbfedaa
open Go.RowKit

section
variable {w w' : World} {p : Nat} {R : ArR} {S : ArS}
theorem arCells_quota (R : ArR) (S : ArS) {t : Nat} (ht : t < 64) (x : Int) : (arCells R S).setIfInBounds (68 + t) (.int .i64 x) = arCells R { S with quota := upd S.quota t x } := by
  refine arCells_set (by omega) ?_ fun j hj hne => ?_
  · unfold arC
    rw [if_neg (by omega), if_neg (by omega), if_neg (by omega), if_neg (by omega), if_neg (by omega), if_pos (by omega), Nat.add_sub_cancel_left]
    simp [upd]
  · unfold arC upd
    by_cases h : 68 ≤ j
    · simp only
      rw [if_neg (show ¬ j - 68 = t by omega)]
    · have h68 : j < 68 := by omega
      simp only [h68, if_true]
theorem arCells_added (R : ArR) (S : ArS) {t : Nat} (ht : t < 64) (v : Value) (l : List Int) : (arCells R S).setIfInBounds (132 + t) v = arCells { R with av := upd R.av t v } { S with added := upd S.added t l } := by
  refine arCells_set (by omega) ?_ fun j hj hne => ?_
  · unfold arC
    rw [if_neg (by omega), if_neg (by omega), if_neg (by omega), if_neg (by omega), if_neg (by omega), if_neg (by omega), if_pos (by omega), Nat.add_sub_cancel_left]
    simp [upd]
  · unfold arC upd
    by_cases h : 132 ≤ j
    · simp only
      rw [if_neg (show ¬ j - 132 = t by omega)]
    · have h1 : j < 132 := by omega
      simp only [h1, if_true]
theorem upd_same {α : Type} (f : Nat → α) (t : Nat) (x : α) : upd f t x t = x := by simp [upd]
theorem upd_ne {α : Type} (f : Nat → α) {t k : Nat} (x : α) (h : k ≠ t) : upd f t x k = f k := by simp [upd, h]
/-- What a tenant was given is written anew. -/
theorem ArM.setAdded (h : ArM w p R S) {t : Nat} (ht : t < 64) {v : Value} {l : List Int} (hs : Sl w IT 1 v l.length (intsV l)) (hv : ∀ b, sblk v = some b → sblk (R.av t) = some b ∨ ¬ Own p R b) :
    ArM (w.setCell ⟨p, 132 + t, none⟩ v) p { R with av := upd R.av t v } { S with added := upd S.added t l } := by
  obtain ⟨n1, n2, n3, n4⟩ := h.p_ne
  have hvp : sblk v ≠ some p := fun e => by
    rcases hv p e with h1 | h1
    · exact n4 t ht h1
    · exact h1 (.inl rfl)
  refine ⟨by rw [← arCells_added R S ht v l]; exact h.blk.set _ _, h.list.far (p := ⟨p, 132 + t, none⟩) n2 _, h.idx.of_block (Below.heap_setCell w ⟨p, 132 + t, none⟩ v R.mb n1.symm), h.free.far (p := ⟨p, 132 + t, none⟩) n3 _, fun k hk => ?_, fun k hk b hb => ?_, fun k k' hk hk' hne b hb => ?_, h.masks⟩
  · show Sl _ IT 1 (upd R.av t v k) (upd S.added t l k).length (intsV (upd S.added t l k))
    by_cases e : k = t
    · subst e; rw [upd_same, upd_same]; exact hs.far (p := ⟨p, 132 + k, none⟩) hvp _
    · rw [upd_ne _ _ e, upd_ne _ _ e]; exact (h.added k hk).far (p := ⟨p, 132 + t, none⟩) (n4 k hk) _
  · show sblk (upd R.av t v k) ≠ some b
    by_cases e : k = t
    · subst e; rw [upd_same]; intro e2
      rcases hv b e2 with h1 | h1
      · exact h.sep1 k hk b hb h1
      · exact h1 (.inr (.inr (.inr (.inl hb))))
    · rw [upd_ne _ _ e]; exact h.sep1 k hk b hb
  · change sblk (upd R.av t v k) = some b at hb
    show sblk (upd R.av t v k') ≠ some b
    by_cases e : k = t
    · subst e
      rw [upd_same] at hb
      rw [upd_ne _ _ (Ne.symm hne)]
      intro e2
      rcases hv b hb with h1 | h1
      · exact h.sep2 k k' hk hk' hne b h1 e2
      · exact h1 (.inr (.inr (.inr (.inr ⟨k', hk', e2⟩))))
    · rw [upd_ne _ _ e] at hb
      by_cases e' : k' = t
      · subst e'
        rw [upd_same]; intro e2
        rcases hv b e2 with h1 | h1
        · exact h.sep2 k k' hk hk' hne b hb h1
        · exact h1 (.inr (.inr (.inr (.inr ⟨k, hk, hb⟩))))
      · rw [upd_ne _ _ e']; exact h.sep2 k k' hk hk' hne b hb
theorem Step.added (_h : ArM w p R S) {t : Nat} {v : Value} (hv : ∀ b, sblk v = some b → Own p R b ∨ w.heap.size ≤ b) : Step p R { R with av := upd R.av t v } w (w.setCell ⟨p, 132 + t, none⟩ v) :=
  ⟨(Mod.refl _ _).set (p := ⟨p, 132 + t, none⟩) (fun _ => .inl rfl) _, fun b hb => by
    rcases hb with h1 | h1 | h1 | h1 | ⟨k, hk, h1⟩
    · exact .inl (.inl h1)
    · exact .inl (.inr (.inl h1))
    · exact .inl (.inr (.inr (.inl h1)))
    · exact .inl (.inr (.inr (.inr (.inl h1))))
    · change sblk (upd R.av t v k) = some b at h1
      by_cases e : k = t
      · subst e; rw [upd_same] at h1; exact hv b h1
      · rw [upd_ne _ _ e] at h1; exact .inl (.inr (.inr (.inr (.inr ⟨k, hk, h1⟩))))⟩
end
def levelOf (S : ArS) (id : Int) : Int := match S.ents[id.toNat]? with | some e => e.level | none => 0
theorem owns_range {S : ArS} {t : Nat} {id kind : Int} (h2 : 2 ≤ S.ents.length) (h : ownsB S t id kind = true) : ∃ (i : Nat) (e : EntD), id = i ∧ i < S.ents.length ∧ S.ents[i]? = some e := by
  unfold ownsB at h
  rw [Bool.or_eq_true] at h
  have key : ∃ i : Nat, id = i ∧ i < S.ents.length := by
    rcases h with h | h
    · simp at h
      rcases h.2 with rfl | rfl
      · exact ⟨0, rfl, by omega⟩
      · exact ⟨1, rfl, by omega⟩
    · unfold entAt at h
      by_cases h3 : 2 ≤ id
      · rw [if_pos h3] at h
        cases he : S.ents[id.toNat]? with
        | none => rw [he] at h; cases h
        | some e => exact ⟨id.toNat, by omega, (List.getElem?_eq_some_iff.1 he).1⟩
      · rw [if_neg h3] at h; cases h
  obtain ⟨i, h4, h5⟩ := key
  exact ⟨i, S.ents[i], h4, h5, List.getElem?_eq_getElem h5⟩
def nilV : Value := .slice none 0 0

set_option maxRecDepth 100000 in
set_option maxHeartbeats 3200000 in
theorem level_any (w : World) (p : Nat) (R : ArR) (S : ArS) (h : ArM w p R S) (hlen : 2 ≤ S.ents.length) (t : Nat) (ht : t < 64) (id : Int) :
    Calls Try.prog 46 #[.pointer (some ⟨p, 0, none⟩), .int .i64 t, .int .i64 id] w fun e w' =>
      e = .returned (.tuple (if ownsB S t id 0 then #[.int .i64 (levelOf S id), .int .i64 0] else #[.int .i64 0, .int .i64 6])) ∧ w = w' := by
  obtain ⟨b, off, cap, hlv, hc1, hc2, hc, _⟩ := h.ents (by omega)
  have c0 := h.cList
  rw [hlv] at c0
  have H := Lib.hid h
  have HC := Lib.hid hc
  have k4 : (t : Int) < 64 := by omega
  have HO := Lib.hid (owns_any w p R S h hlen t ht id 0)
  clear h hc hlv
  cases hb : ownsB S t id 0
  · rw [if_neg Bool.false_ne_true]
    rw [hb] at HO
    clear hb
    generalize hL : S.ents.length = n at *
    clear hL
    go_enter Try.func46, Try.ntmps46
    go_wp2_with fail
    (with_reducible refine (tenant_any w t).mono ?_)
    rintro e wq ⟨rfl, rfl⟩
    rw [decide_eq_true (show 0 ≤ (t : Int) ∧ (t : Int) < 64 by omega)]
    go_wp2_with fail
    (with_reducible refine HO.out.mono ?_)
    rintro e wq ⟨rfl, rfl⟩
    go_wp2_with fail
    go_ret2
    exact ⟨rfl, rfl⟩
  · rw [if_pos rfl]
    rw [hb] at HO
    obtain ⟨i, e, rfl, hi, he⟩ := owns_range hlen hb
    have c1 : w.cell? ⟨b, off + i * 8 + 5, none⟩ = some (.int .i64 e.level) := HC.out i e 5 _ he rfl
    have hil : (i : Int) < (S.ents.length : Int) := by omega
    have HX : Hid (levelOf S (i : Int) = e.level) := by show levelOf S (i : Int) = e.level; unfold levelOf; rw [Int.toNat_natCast, he]
    clear hi he hb
    generalize hL : S.ents.length = n at *
    clear hL
    go_enter Try.func46, Try.ntmps46
    go_wp2_with fail
    (with_reducible refine (tenant_any w t).mono ?_)
    rintro e wq ⟨rfl, rfl⟩
    rw [decide_eq_true (show 0 ≤ (t : Int) ∧ (t : Int) < 64 by omega)]
    go_wp2_with fail
    (with_reducible refine HO.out.mono ?_)
    rintro e wq ⟨rfl, rfl⟩
    go_wp2_with fail
    go_ret2
    exact ⟨by rw [HX.out]; rfl, rfl⟩
end Go.Proofs.Ytgdijlpkbbfedaa
