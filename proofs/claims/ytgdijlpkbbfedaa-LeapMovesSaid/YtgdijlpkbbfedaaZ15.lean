/- plane.Shift. -/
import Derived.IntWalk
import Derived.Test.YtgdijlpkbbfedaaZ11

namespace Go.Proofs.Ytgdijlpkbbfedaa
open Go.RowKit

def shC (dx dy : Int) (c : Int × Int) : Int × Int := (c.1 + dx, c.2 + dy)
theorem tid_map {f : Int × Int → Int × Int} {l t t2 : List (Int × Int)} (h : Tid l t) (h2 : Tid (t.map f) t2) : Tid (l.map f) t2 :=
  ⟨h2.1, fun c => (h2.2 c).trans (by
    simp only [List.mem_map]
    constructor
    · rintro ⟨a, ha, rfl⟩; exact ⟨a, (h.2 a).1 ha, rfl⟩
    · rintro ⟨a, ha, rfl⟩; exact ⟨a, (h.2 a).2 ha, rfl⟩)⟩

/-- k of the cells are moved. -/
def mixed (dx dy : Int) (t : List (Int × Int)) (k i : Nat) : Int × Int := if i < k then shC dx dy t[i]! else t[i]!
theorem mixed_all (dx dy : Int) (t : List (Int × Int)) : (List.range t.length).map (mixed dx dy t t.length) = t.map (shC dx dy) := by
  apply List.ext_getElem?
  intro i
  by_cases hi : i < t.length
  · rw [List.getElem?_map, List.getElem?_range hi, List.getElem?_map, List.getElem?_eq_getElem hi]
    simp [mixed, hi, List.getElem!_eq_getElem?_getD, List.getElem?_eq_getElem hi]
  · rw [List.getElem?_eq_none (by simp; omega), List.getElem?_eq_none (by simp; omega)]

set_option maxRecDepth 100000 in
set_option maxHeartbeats 3200000 in
theorem shift_ok (w : World) (n : Nat) (v : Value) (l : List (Int × Int)) (dx dy : Int) (h : Rd w w.heap.size 2 v n (flat l)) (hn : n ≤ 4096) (hok : ∀ c ∈ l, okC c) (hok2 : ∀ c ∈ l, okC (shC dx dy c))
    (hx1 : -2199023255552 < dx) (hx2 : dx < 2199023255552) (hy1 : -2199023255552 < dy) (hy2 : dy < 2199023255552) :
    Calls Try.prog 14 #[v, .int .i64 dx, .int .i64 dy] w (TidyPost w (l.map (shC dx dy))) := by
  have H := Lib.hid h
  have HOK := Lib.hid hok
  have HOK2 := Lib.hid hok2
  have HLEN : Hid (l.length = n) := (h.pairs).1
  obtain ⟨A, cap, rfl, hc1, hc2⟩ := h.form
  unfold maxLen at hc2
  clear h hok hok2
  go_enter Try.func14, Try.ntmps14
  go_wp2_with fail
  (with_reducible refine (tidy_ok _ w.heap.size n _ l H.out (Nat.le_refl _) hn HOK.out).mono ?_)
  rintro e w1 ⟨A1, m, t, rfl, ht, hs1, hf1, hb1⟩
  have HT := Lib.hid ht
  have HS1 := Lib.hid hs1
  have HF1 := Lib.hid hf1
  have HB1 := Lib.hid hb1
  have hlen : t.length = m := by have e1 := hs1.1; rw [flat_length] at e1; omega
  have HLT := Lib.hid hlen
  have hm : m ≤ 4096 := by
    have e2 := tid_length HT.out
    have e3 := HLEN.out
    omega
  clear ht hs1 hf1 hb1 hlen
  go_wp2_with fail
  go_loopw [35] (fun iv wx => ∃ k : Nat, k ≤ m ∧ iv = .int .i64 k ∧ (∀ b off, A1 = some ⟨b, off, none⟩ → RowC wx 37 b off m (mixed dx dy t k)) ∧ Below w.heap.size w wx) (fun iv _ => m - (intOf iv).toNat)
  case atStart =>
    refine ⟨0, Nat.zero_le _, rfl, fun b off he => ?_, HB1.out⟩
    subst he
    exact (HS1.out.rowC.1).congr fun i _ => by simp [mixed]
  case round =>
    obtain ⟨k, hk, rfl, hr, hb⟩ := hrel
    by_cases hlt : k < m
    · obtain ⟨b, off, cp, he, _, _, _, _, _⟩ := HS1.out.at (by omega)
      injection he with he1 he2 he3
      subst he1 he3
      have hR := hr b off rfl
      have hmem : t[k]! ∈ t := by
        have : k < t.length := by rw [HLT.out]; exact hlt
        rw [List.getElem!_eq_getElem?_getD, List.getElem?_eq_getElem this]; simp
      have ho1 := HOK.out _ ((tid_mem HT.out _).1 hmem)
      have ho2 := HOK2.out _ ((tid_mem HT.out _).1 hmem)
      have c1 := hR.cell1 hlt
      have c2 := hR.cell2 hlt
      have d1 := hR.frozen (off + k * 2)
      have d2 := hR.frozen (off + k * 2 + 1)
      have hmx : mixed dx dy t k k = t[k]! := by simp [mixed]
      rw [hmx] at c1 c2
      have hset : ∀ x y, (x, y) = shC dx dy t[k]! → RowC ((wr.setCell ⟨b, off + k * 2, none⟩ (.int .i64 x)).setCell ⟨b, off + k * 2 + 1, none⟩ (.int .i64 y)) 37 b off m (mixed dx dy t (k + 1)) := fun x y hxy =>
        (hR.set hlt x y).congr fun i _ => by
          by_cases e : i = k
          · subst e; simp [mixed, hxy]
          · rw [if_neg e]; unfold mixed
            by_cases e2 : i < k
            · rw [if_pos e2, if_pos (by omega)]
            · rw [if_neg e2, if_neg (by omega)]
      have HSET := Lib.hid hset
      have HB := Lib.hid hb
      have hbB : w.heap.size ≤ b := HF1.out b rfl
      clear hset hmx hmem hr hR hb
      generalize t[k]! = c at c1 c2 ho1 ho2 HSET
      obtain ⟨x, y⟩ := c
      unfold okC okZ shC at ho2
      unfold okC okZ at ho1
      dsimp only at ho1 ho2
      have e1 := IntWalk.i64_in (x + dx) (by omega)
      have e2 := IntWalk.i64_in (y + dy) (by omega)
      have hbx : b < wr.heap.size := World.block_lt_of_cell? wr _ c1
      clear ho1 ho2
      go_wp2
      go_roundw
      case rel => exact ⟨k + 1, by omega, by go_num, fun b' off' he => by injection he with he; injection he with e1 e2; subst e1 e2; exact HSET.out _ _ rfl, Below.setCell (Below.setCell HB.out hbB _) hbB _⟩
      case measure => simp [intOf]; omega
    · obtain rfl : k = m := by omega
      have hrd : Rd wr wr.heap.size 2 (.slice A1 k k) k (flat (t.map (shC dx dy))) := by
        rcases Nat.eq_zero_or_pos k with h0 | h0
        · have ht0 : t = [] := List.eq_nil_of_length_eq_zero (by rw [HLT.out]; exact h0)
          subst ht0 h0
          exact ⟨rfl, _, _, rfl, Nat.le_refl _, Nat.zero_le _, fun h => absurd h (Nat.lt_irrefl _)⟩
        · obtain ⟨b, off, cp, he, _, hcp, _, _, _⟩ := HS1.out.at h0
          injection he with he1 he2 he3
          subst he1 he3
          have := ((hr b off rfl).sl (Nat.le_refl k) (Nat.le_refl k) hcp).rd
          rwa [show (List.range k).map (mixed dx dy t k) = t.map (shC dx dy) by have := mixed_all dx dy t; rwa [HLT.out] at this] at this
      have HRD := Lib.hid hrd
      have HB := Lib.hid hb
      clear hrd hb hr
      go_wp2_with fail
      (with_reducible refine (tidy_ok _ wr.heap.size k _ (t.map (shC dx dy)) HRD.out (Nat.le_refl _) hm (by
        intro c hc
        simp only [List.mem_map] at hc
        obtain ⟨a, ha, rfl⟩ := hc
        exact HOK2.out a ((tid_mem HT.out a).1 ha))).mono ?_)
      rintro e w2 ⟨A2, m2, t2, rfl, ht2, hs2, hf2, hb2⟩
      have HT2 := Lib.hid ht2
      have HS2 := Lib.hid hs2
      have HF2 := Lib.hid hf2
      have HB2 := Lib.hid hb2
      clear ht2 hs2 hf2 hb2
      go_wp2
      go_ret2
      exact ⟨A2, m2, t2, rfl, tid_map HT.out HT2.out, HS2.out, fun b hb => Nat.le_trans HB.out.size (HF2.out b hb), HB.out.trans (HB2.out.mono HB.out.size)⟩
end Go.Proofs.Ytgdijlpkbbfedaa
