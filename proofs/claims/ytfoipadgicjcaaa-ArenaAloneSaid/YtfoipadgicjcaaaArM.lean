/- An arena in memory: what it is, what may be read, what a step leaves alone. -/
import Derived.Test.YtfoipadgicjcaaaKeyMap
import Derived.Laws.BitsAllLaws
namespace Go.Proofs.Ytfoipadgicjcaaa
open Go.RowKit

theorem bit_test (m t : Nat) (hm : m < 18446744073709551616) : (bits .and .u64 ((m : Int) / 2 ^ t) 1 == 1) = m.testBit t := by
  have e : ((m : Int) / 2 ^ t) = ((m / 2 ^ t : Nat) : Int) := by simp
  have hl : m / 2 ^ t < 18446744073709551616 := Nat.lt_of_le_of_lt (Nat.div_le_self _ _) hm
  rw [e, show (1 : Int) = ((1 : Nat) : Int) from rfl, u64_and_nat _ 1 hl (by decide), nat_mask1, Nat.testBit_eq_decide_div_mod_eq]
  by_cases h : m / 2 ^ t % 2 = 1
  · simp [h]
  · have h0 : m / 2 ^ t % 2 = 0 := by omega
    rw [h0]; decide
def setB (m t : Nat) : Nat := m ||| 2 ^ t
def clrB (m t : Nat) : Nat := m &&& (18446744073709551615 - 2 ^ t)
theorem pow_lt64 {t : Nat} (h : t < 64) : 2 ^ t < 18446744073709551616 := by
  have := Nat.pow_lt_pow_right (a := 2) (by decide) h
  rw [show (2 : Nat) ^ 64 = 18446744073709551616 by decide] at this
  exact this
theorem setB_lt {m t : Nat} (hm : m < 18446744073709551616) (ht : t < 64) : setB m t < 18446744073709551616 := by
  have := Nat.or_lt_two_pow (n := 64) (x := m) (y := 2 ^ t) (by rw [show (2 : Nat) ^ 64 = 18446744073709551616 by decide]; exact hm) (by rw [show (2 : Nat) ^ 64 = 18446744073709551616 by decide]; exact pow_lt64 ht)
  rw [show (2 : Nat) ^ 64 = 18446744073709551616 by decide] at this
  exact this
theorem clrB_lt {m t : Nat} (hm : m < 18446744073709551616) : clrB m t < 18446744073709551616 := Nat.lt_of_le_of_lt Nat.and_le_left hm
theorem setB_bit {m t i : Nat} : (setB m t).testBit i = (m.testBit i || decide (t = i)) := by
  unfold setB; rw [Nat.testBit_or, Nat.testBit_two_pow]
theorem clrB_bit {m t i : Nat} (hm : m < 18446744073709551616) (ht : t < 64) : (clrB m t).testBit i = (m.testBit i && !decide (t = i)) := by
  unfold clrB
  rw [Nat.testBit_and, show 18446744073709551615 - 2 ^ t = 2 ^ 64 - (2 ^ t + 1) by rw [show (2 : Nat) ^ 64 = 18446744073709551616 by decide]; omega, Nat.testBit_two_pow_sub_succ (by rw [show (2 : Nat) ^ 64 = 18446744073709551616 by decide]; exact pow_lt64 ht), Nat.testBit_two_pow]
  by_cases hi : i < 64
  · simp [hi]
  · have : m.testBit i = false := Nat.testBit_lt_two_pow (Nat.lt_of_lt_of_le hm (by
      rw [show 18446744073709551616 = 2 ^ 64 by decide]; exact Nat.pow_le_pow_right (by decide) (by omega)))
    simp [this]

structure ArM (w : World) (p : Nat) (R : ArR) (S : ArS) : Prop where
  blk : Blk w p AR (arCells R S)
  list : Sl w EN 8 R.lv S.ents.length (entsV S.ents)
  idx : MapK w R.mb S.size S.idx
  free : Sl w IT 1 R.fv S.free.length (intsV S.free)
  added : ∀ t, t < 64 → Sl w IT 1 (R.av t) (S.added t).length (intsV (S.added t))
  sep1 : ∀ t, t < 64 → ∀ b, sblk R.fv = some b → sblk (R.av t) ≠ some b
  sep2 : ∀ t t', t < 64 → t' < 64 → t ≠ t' → ∀ b, sblk (R.av t) = some b → sblk (R.av t') ≠ some b
  masks : ∀ e ∈ S.ents, e.mask < 18446744073709551616
/-- The blocks that an arena has. -/
def Own (p : Nat) (R : ArR) (b : Nat) : Prop := b = p ∨ b = R.mb ∨ sblk R.lv = some b ∨ sblk R.fv = some b ∨ ∃ t, t < 64 ∧ sblk (R.av t) = some b
/-- A step of an arena: other old blocks are left alone, new blocks alone are added. -/
structure Step (p : Nat) (R R' : ArR) (w w' : World) : Prop where
  mod : Mod (Own p R) w w'
  own : ∀ b, Own p R' b → Own p R b ∨ w.heap.size ≤ b
theorem Step.refl (p : Nat) (R : ArR) (w : World) : Step p R R w w := ⟨Mod.refl _ _, fun _ h => .inl h⟩
theorem Step.trans {p : Nat} {R R1 R2 : ArR} {w w1 w2 : World} (h : Step p R R1 w w1) (k : Step p R1 R2 w1 w2) : Step p R R2 w w2 :=
  ⟨h.mod.trans k.mod fun b hb ho => by
    rcases h.own b ho with h1 | h1
    · exact h1
    · omega, fun b hb => by
    rcases k.own b hb with h1 | h1
    · exact h.own b h1
    · exact .inr (Nat.le_trans h.mod.size h1)⟩
section
variable {w w' : World} {p : Nat} {R : ArR} {S : ArS}
theorem ArM.c (h : ArM w p R S) (j : Nat) (hj : j < 197) : w.cell? ⟨p, j, none⟩ = some (arC R S j) := h.blk.cellS (arCells_at R S j hj)
theorem ArM.f (h : ArM w p R S) (j : Nat) : w.frozen? ⟨p, j, none⟩ = false := h.blk.frozen j
theorem ArM.cRoom (h : ArM w p R S) : w.cell? ⟨p, 0, none⟩ = some (.int .i64 S.room) := (h.c 0 (by decide)).trans rfl
theorem ArM.cList (h : ArM w p R S) : w.cell? ⟨p, 1, none⟩ = some R.lv := (h.c 1 (by decide)).trans rfl
theorem ArM.cIdx (h : ArM w p R S) : w.cell? ⟨p, 2, none⟩ = some (.map (some R.mb)) := (h.c 2 (by decide)).trans rfl
theorem ArM.cFree (h : ArM w p R S) : w.cell? ⟨p, 3, none⟩ = some R.fv := (h.c 3 (by decide)).trans rfl
theorem ArM.cCount (h : ArM w p R S) {t : Nat} (ht : t < 64) : w.cell? ⟨p, 4 + t, none⟩ = some (.int .i64 (S.count t)) := by
  rw [h.c (4 + t) (by omega)]; unfold arC
  rw [if_neg (by omega), if_neg (by omega), if_neg (by omega), if_neg (by omega), if_pos (by omega), Nat.add_sub_cancel_left]
theorem ArM.cQuota (h : ArM w p R S) {t : Nat} (ht : t < 64) : w.cell? ⟨p, 68 + t, none⟩ = some (.int .i64 (S.quota t)) := by
  rw [h.c (68 + t) (by omega)]; unfold arC
  rw [if_neg (by omega), if_neg (by omega), if_neg (by omega), if_neg (by omega), if_neg (by omega), if_pos (by omega), Nat.add_sub_cancel_left]
theorem ArM.cAdded (h : ArM w p R S) {t : Nat} (ht : t < 64) : w.cell? ⟨p, 132 + t, none⟩ = some (R.av t) := by
  rw [h.c (132 + t) (by omega)]; unfold arC
  rw [if_neg (by omega), if_neg (by omega), if_neg (by omega), if_neg (by omega), if_neg (by omega), if_neg (by omega), if_pos (by omega), Nat.add_sub_cancel_left]
theorem ArM.cLive (h : ArM w p R S) : w.cell? ⟨p, 196, none⟩ = some (.int .i64 S.live) := (h.c 196 (by decide)).trans rfl
/-- Another's doings leave an arena be. -/
theorem ArM.keep {T : Nat → Prop} (h : ArM w p R S) (hm : Mod T w w') (hT : ∀ b, Own p R b → ¬ T b) : ArM w' p R S :=
  ⟨h.blk.mod hm (hT _ (.inl rfl)), h.list.mod hm fun b hb => hT _ (.inr (.inr (.inl hb))), h.idx.of_block (hm.block _ h.idx.lt (hT _ (.inr (.inl rfl)))), h.free.mod hm fun b hb => hT _ (.inr (.inr (.inr (.inl hb)))),
    fun t ht => (h.added t ht).mod hm fun b hb => hT _ (.inr (.inr (.inr (.inr ⟨t, ht, hb⟩)))), h.sep1, h.sep2, h.masks⟩
theorem ArM.drew (h : ArM w p R S) : ArM w.drew p R S := ⟨h.blk, h.list, h.idx.of_block rfl, h.free, h.added, h.sep1, h.sep2, h.masks⟩
theorem ArM.own_lt (h : ArM w p R S) {b : Nat} (hb : Own p R b) : b < w.heap.size := by
  rcases hb with rfl | rfl | hb | hb | ⟨t, ht, hb⟩
  · exact h.blk.lt
  · exact h.idx.lt
  · exact (h.list.lt hb).1
  · exact (h.free.lt hb).1
  · exact ((h.added t ht).lt hb).1
theorem ArM.ents (h : ArM w p R S) (hn : 0 < S.ents.length) : ∃ b off cap, R.lv = .slice (some ⟨b, off, none⟩) S.ents.length cap ∧ S.ents.length ≤ cap ∧ cap ≤ maxLen ∧ (∀ (id : Nat) (e : EntD) (j : Nat) u, S.ents[id]? = some e → (entV e)[j]? = some u → w.cell? ⟨b, off + id * 8 + j, none⟩ = some u) ∧ ∀ j, w.frozen? ⟨b, j, none⟩ = false := by
  obtain ⟨b, off, cap, hlv, hc1, hc2, hlt2, hc, hf', _⟩ := h.list.at hn
  refine ⟨b, off, cap, hlv, hc1, hc2, fun id e j u he hu => ?_, hf'⟩
  have hj : j < 8 := by have := (List.getElem?_eq_some_iff.1 hu).1; simpa [entV] using this
  rw [Nat.add_assoc]
  exact hc _ _ ((entsV_at _ id e he j hj).trans hu)
theorem ArM.list_ne (h : ArM w p R S) {b : Nat} (hb : sblk R.lv = some b) : b ≠ p ∧ b ≠ R.mb ∧ sblk R.fv ≠ some b ∧ ∀ t, t < 64 → sblk (R.av t) ≠ some b := by
  obtain ⟨_, cs, hk⟩ := h.list.lt hb
  refine ⟨fun e => ?_, fun e => ?_, fun e => ?_, fun t ht e => ?_⟩
  · subst e; exact absurd (hk.inj h.blk).1 (by decide)
  · subst e; exact h.idx.ne hk rfl
  · obtain ⟨_, cs', hk'⟩ := h.free.lt e; exact absurd (hk.inj hk').1 (by decide)
  · obtain ⟨_, cs', hk'⟩ := (h.added t ht).lt e; exact absurd (hk.inj hk').1 (by decide)
theorem ArM.p_ne (h : ArM w p R S) : p ≠ R.mb ∧ sblk R.lv ≠ some p ∧ sblk R.fv ≠ some p ∧ ∀ t, t < 64 → sblk (R.av t) ≠ some p := by
  refine ⟨fun e => h.idx.ne h.blk e.symm, fun e => (h.list_ne e).1 rfl, fun e => ?_, fun t ht e => ?_⟩
  · obtain ⟨_, cs', hk'⟩ := h.free.lt e; exact absurd (hk'.inj h.blk).1 (by decide)
  · obtain ⟨_, cs', hk'⟩ := (h.added t ht).lt e; exact absurd (hk'.inj h.blk).1 (by decide)
theorem ArM.mb_ne (h : ArM w p R S) : sblk R.lv ≠ some R.mb ∧ sblk R.fv ≠ some R.mb ∧ ∀ t, t < 64 → sblk (R.av t) ≠ some R.mb := by
  refine ⟨fun e => (h.list_ne e).2.1 rfl, fun e => ?_, fun t ht e => ?_⟩
  · obtain ⟨_, cs', hk'⟩ := h.free.lt e; exact h.idx.ne hk' rfl
  · obtain ⟨_, cs', hk'⟩ := (h.added t ht).lt e; exact h.idx.ne hk' rfl
/-- A number of the arena's own block is written. -/
theorem ArM.put (h : ArM w p R S) {j : Nat} {u : Value} {S' : ArS} (he : (arCells R S).setIfInBounds j u = arCells R S') (h1 : S'.ents = S.ents) (h2 : S'.idx = S.idx) (h3 : S'.size = S.size) (h4 : S'.free = S.free) (h5 : S'.added = S.added) :
    ArM (w.setCell ⟨p, j, none⟩ u) p R S' := by
  obtain ⟨n1, n2, n3, n4⟩ := h.p_ne
  refine ⟨by rw [← he]; exact h.blk.set j u, by rw [h1]; exact h.list.far (p := ⟨p, j, none⟩) n2 u, by rw [h2, h3]; exact h.idx.of_block (Below.heap_setCell w ⟨p, j, none⟩ u R.mb n1.symm), by rw [h4]; exact h.free.far (p := ⟨p, j, none⟩) n3 u, fun t ht => by rw [h5]; exact (h.added t ht).far (p := ⟨p, j, none⟩) (n4 t ht) u, h.sep1, h.sep2, by rw [h1]; exact h.masks⟩
end
end Go.Proofs.Ytfoipadgicjcaaa
