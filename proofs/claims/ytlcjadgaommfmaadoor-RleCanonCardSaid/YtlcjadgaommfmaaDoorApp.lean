/- append onto a slice that reads as a list of cells: the run of the builtin, in one law for both arms. No program is named here. -/
import Derived.Test.YtlcjadgaommfmaaDoorHeap
import Derived.OwnWalk
import Derived.Maps.AppendAt
import Derived.RegionTactic
namespace Go.Proofs.YtlcjadgaommfmaaDoor
open Go.RowKit

/-- A slice value that can be read: n elements, whose cells are xs; with elements its block is below B. -/
def Rd (w : World) (B : Nat) (sz : Nat) (v : Value) (n : Nat) (xs : List Value) : Prop :=
  xs.length = n * sz ∧ ∃ A cap, v = .slice A n cap ∧ n ≤ cap ∧ cap ≤ maxLen ∧
    (0 < n → ∃ b off, A = some ⟨b, off, none⟩ ∧ b < B ∧ ∀ j u, xs[j]? = some u → w.cell? ⟨b, off + j, none⟩ = some u)

section rd
variable {w w' : World} {B sz n : Nat} {v : Value} {xs : List Value} {t : TypeId}
theorem Sl.rd (h : Sl w t sz v n xs) : Rd w w.heap.size sz v n xs := by
  obtain ⟨A, cap, rfl, h2, h3⟩ := h.form
  refine ⟨h.1, A, cap, rfl, h2, h3, fun hn => ?_⟩
  obtain ⟨b, off, cap', he, _, _, hlt, hc, _⟩ := h.at hn
  injection he with e1 _ _
  exact ⟨b, off, e1, hlt, hc⟩
theorem Rd.keep (h : Rd w B sz v n xs) (hk : ∀ b, b < B → w'.heap[b]? = w.heap[b]?) : Rd w' B sz v n xs := by
  obtain ⟨h1, A, cap, rfl, h2, h3, h4⟩ := h
  refine ⟨h1, A, cap, rfl, h2, h3, fun hn => ?_⟩
  obtain ⟨b, off, e, hb, hc⟩ := h4 hn
  exact ⟨b, off, e, hb, fun j u hj => (World.cell?_of_block (hk b hb)).trans (hc j u hj)⟩
theorem Rd.below (h : Rd w B sz v n xs) (hb : Below B w w') : Rd w' B sz v n xs := h.keep hb.block
theorem Rd.mod {S : Nat → Prop} (h : Rd w B sz v n xs) (hm : Mod S w w') (hB : B ≤ w.heap.size) (hS : ∀ b, b < B → ¬ S b) : Rd w' B sz v n xs :=
  h.keep fun b hb => hm.block b (by omega) (hS b hb)
theorem Rd.more {B' : Nat} (h : Rd w B sz v n xs) (hB : B ≤ B') : Rd w B' sz v n xs := by
  obtain ⟨h1, A, cap, rfl, h2, h3, h4⟩ := h
  refine ⟨h1, A, cap, rfl, h2, h3, fun hn => ?_⟩
  obtain ⟨b, off, e, hb, hc⟩ := h4 hn
  exact ⟨b, off, e, by omega, hc⟩
theorem Rd.form (h : Rd w B sz v n xs) : ∃ A cap, v = .slice A n cap ∧ n ≤ cap ∧ cap ≤ maxLen := by
  obtain ⟨h1, A, cap, rfl, h2, h3, _⟩ := h; exact ⟨A, cap, rfl, h2, h3⟩
theorem Rd.at (h : Rd w B sz v n xs) (hn : 0 < n) : ∃ b off cap, v = .slice (some ⟨b, off, none⟩) n cap ∧ n ≤ cap ∧ cap ≤ maxLen ∧ b < B ∧
    ∀ j u, xs[j]? = some u → w.cell? ⟨b, off + j, none⟩ = some u := by
  obtain ⟨h1, A, cap, rfl, h2, h3, h4⟩ := h
  obtain ⟨b, off, rfl, hb, hc⟩ := h4 hn
  exact ⟨b, off, cap, rfl, h2, h3, hb, hc⟩
theorem Rd.fresh (w : World) (t : TypeId) (cs : Array Value) (sz n : Nat) (hl : cs.size = n * sz) (hm : n ≤ maxLen) :
    Rd (w.alloc (.cells cs t)) (w.heap.size + 1) sz (.slice (some ⟨w.heap.size, 0, none⟩) n n) n cs.toList :=
  ⟨by simpa using hl, _, _, rfl, Nat.le_refl _, hm, fun _ => ⟨_, _, rfl, by omega, fun j u hj => by rw [(Blk.new w t cs).cell]; simpa using hj⟩⟩
end rd

theorem heap_setCells (b : Nat) (vs : List Value) : ∀ (o : Nat) (w : World) (t : TypeId) (cs : Array Value), Blk w b t cs → o + vs.length ≤ cs.size →
    ∃ cs', Blk (w.setCells b o vs) b t cs' ∧ cs'.toList = cs.toList.take o ++ vs ++ cs.toList.drop (o + vs.length) := by
  induction vs with
  | nil => intro o w t cs h _; exact ⟨cs, h, by simp⟩
  | cons v r ih =>
    intro o w t cs h hl
    simp at hl
    obtain ⟨cs', h1, h2⟩ := ih (o + 1) _ t _ (h.set o v) (by simp; omega)
    refine ⟨cs', h1, ?_⟩
    rw [h2]
    simp only [Array.toList_setIfInBounds]
    have ho : o < cs.toList.length := by simp; omega
    rw [List.take_set, List.drop_set]
    rw [if_pos (by omega)]
    have : (cs.toList.take (o + 1)).set o v = cs.toList.take o ++ [v] := by
      rw [List.take_succ_eq_append_getElem ho]
      rw [List.set_append_right _ _ (by simp; omega)]
      have hmin : min o cs.size = o := Nat.min_eq_left (by simp at ho; omega)
      simp [hmin]
    rw [this]
    simp [Nat.add_assoc, Nat.add_comm 1]

theorem mod_setCells (b : Nat) (vs : List Value) : ∀ (o : Nat) (w w0 : World) (S : Nat → Prop), Mod S w0 w → (b < w0.heap.size → S b) → Mod S w0 (w.setCells b o vs) := by
  induction vs with
  | nil => intro o w w0 S h _; exact h
  | cons v r ih => intro o w w0 S h hb; exact ih (o + 1) _ w0 S (h.set hb v) hb

section app
variable {P : Program} (w : World)

/-- append of what can be read onto what reads as a list, both arms, nil too. -/
theorem run_append_sl (t ty e : TypeId) (i : TypeInfo) (z : Value) (sz bytes : Nat) (ht : P.underlying t = some (.slice e)) (hi : P.info? e = some i) (hz : i.zero = some z)
    (hsize : i.size = sz) (hby : i.bytes = bytes) (hzs : z.cells.size = sz) (hsz : 0 < sz)
    {v : Value} {n : Nat} {xs : List Value} (hv : Sl w e sz v n xs)
    {B m : Nat} {x : Value} {news : List Value} (hx : Rd w B sz x m news) (h1 : ∀ u ∈ news, u.oneCell' = true)
    (hbytes : (n + m) * bytes ≤ 140737488355328) (h63 : n + m ≤ maxLen) :
    ∃ v' w', (Builtin.append_ #[t, t] ty #[v, x]).run P w = .ok v' w' ∧ Sl w' e sz v' (n + m) (xs ++ news) ∧ Mod (fun b => sblk v = some b) w w' ∧
      (sblk v' = sblk v ∨ sblk v' = some w.heap.size ∧ w.heap.size < w'.heap.size) := by
  obtain ⟨hl, A, cap, rfl, hnc, hcm, hA, hc⟩ := hv
  obtain ⟨hm1, A2, cap2, rfl, hmc, hcm2, hx4⟩ := hx
  rcases Nat.eq_zero_or_pos m with hm0 | hmpos
  · subst hm0
    have hnil : news = [] := List.eq_nil_of_length_eq_zero (by simpa using hm1)
    subst hnil
    refine ⟨.slice A n cap, w, ?_, ⟨by simpa using hl, A, cap, rfl, hnc, hcm, hA, by simpa using hc⟩, Mod.refl _ _, .inl rfl⟩
    cases A with
    | none =>
      have := hA rfl; subst this
      have : n = 0 := by omega
      subst this
      cases A2 with
      | none => simp [Builtin.append_, run_underlying ht, sizeOf, typeInfo, hi, Builtin.lenOf, Builtin.firstCells]
      | some a2 =>
        have hf := run_firstCells_some (P := P) w i.size 0 a2 0 cap2 [] (by simp) (by intro j u hj; simp at hj)
        simp [Builtin.append_, run_underlying ht, sizeOf, typeInfo, hi, Builtin.lenOf, hf]
    | some a =>
      cases A2 with
      | none => simp [Builtin.append_, run_underlying ht, sizeOf, typeInfo, hi, Builtin.lenOf, Builtin.firstCells, hnc, storeCells]
      | some a2 =>
        have hf := run_firstCells_some (P := P) w i.size 0 a2 0 cap2 [] (by simp) (by intro j u hj; simp at hj)
        simp [Builtin.append_, run_underlying ht, sizeOf, typeInfo, hi, Builtin.lenOf, hf, hnc, storeCells]
  · obtain ⟨b2, off2, rfl, hb2, hc2⟩ := hx4 hmpos
    have hnews : ∀ j u, news[j]? = some u → w.cell? ((⟨b2, off2, none⟩ : Addr).add j) = some u := by
      intro j u hj; rw [Addr.add_lit]; exact hc2 j u hj
    by_cases hroom : n + m ≤ cap
    · cases A with
      | none => have := hA rfl; omega
      | some a =>
        obtain ⟨cs, c1, c2, c3, c4⟩ := hc a rfl
        obtain ⟨b, off, sp⟩ := a
        simp at c1 c2 c3 c4; subst c1
        have hbig : off + n * sz + news.length ≤ cs.size := by
          have : (n + m) * sz ≤ cap * sz := Nat.mul_le_mul_right _ hroom
          rw [Nat.add_mul] at this; omega
        have hrun := run_append_room_cells (P := P) w t ty e i ht hi b off n cap ⟨b2, off2, none⟩ m cap2 news (by rw [hsize]; exact hm1) hnews h1 hroom
          (fun j hj => by rw [hsize, c2.cell, Array.getElem?_eq_getElem (by omega)]; rfl) (fun j hj => c2.frozen _)
        obtain ⟨cs', d1, d2⟩ := heap_setCells b news (off + n * sz) w e cs c2 hbig
        have hsz' : cs'.size = cs.size := by
          have := congrArg List.length d2
          simp at this; omega
        refine ⟨_, _, hrun, ⟨by rw [List.length_append, hl, hm1, Nat.add_mul], _, _, rfl, hroom, hcm, (fun h => nomatch h), fun a ha => ?_⟩, mod_setCells b news _ w w _ (Mod.refl _ _) (fun _ => rfl), .inl rfl⟩
        injection ha with ha; subst ha
        refine ⟨cs', rfl, by rw [hsize]; exact d1, by rw [hsz']; exact c3, ?_⟩
        have hlo : off + n * sz ≤ cs.toList.length := by simp; omega
        rw [d2, ← c4]
        simp only [List.append_assoc]
        rw [List.drop_append_of_le_length (by rw [List.length_take]; omega)]
        rw [List.drop_take, Nat.add_sub_cancel_left]
        have hlen : ((cs.toList.drop off).take (n * sz)).length = n * sz := by simp; omega
        rw [List.take_append, hlen, List.take_of_length_le (by rw [hlen, Nat.add_mul]; omega)]
        congr 1
        rw [Nat.add_mul, Nat.add_sub_cancel_left, List.take_append_of_le_length (by omega), List.take_of_length_le (by omega)]
    · have hgrow : cap < n + m := by omega
      subst hsize; subst hby
      have h63' : n + m ≤ 9223372036854775807 := by simp only [maxLen] at h63; omega
      have key : ∃ a : Option Addr, A = a ∧ ((Builtin.append_ #[t, t] ty #[.slice A n cap, .slice (some ⟨b2, off2, none⟩) m cap2]).run P w =
          .ok (.slice (some ⟨w.heap.size, 0, none⟩) (n + m) (grownCap w (n + m) cap e)) (w.drew.alloc (.cells (xs.toArray ++ news.toArray ++ Builtin.zeroCells z.cells (grownCap w (n + m) cap e - (n + m))) e))) := by
        refine ⟨A, rfl, ?_⟩
        cases A with
        | none =>
          have hc0 := hA rfl; subst hc0
          have hn0 : n = 0 := by omega
          subst hn0
          have hxs : xs = [] := List.eq_nil_of_length_eq_zero (by simpa using hl)
          subst hxs
          have hr := run_append_nil (P := P) w t ty e i z ht hi hz ⟨b2, off2, none⟩ m cap2 news hm1 hnews (by omega) (by omega) (by have hb := hbytes; simp only [Nat.zero_add] at hb; omega)
          simpa using hr
        | some a =>
          obtain ⟨cs, c1, c2, c3, c4⟩ := hc a rfl
          obtain ⟨b, off, sp⟩ := a
          simp at c1 c2 c3 c4; subst c1
          exact run_append_grow (P := P) w t ty e i z ht hi hz ⟨b, off, none⟩ n cap xs hl (fun j u hj => by
            rw [Addr.add_lit, c2.cell]
            rw [← c4, List.getElem?_take] at hj
            split at hj
            · rw [List.getElem?_drop] at hj; simpa using hj
            · cases hj) ⟨b2, off2, none⟩ m cap2 news hm1 hnews hgrow (by omega) (growslice_fits hgrow hbytes)
      obtain ⟨_, _, hrun⟩ := key
      refine ⟨_, _, hrun, ⟨by rw [List.length_append, hl, hm1, Nat.add_mul], _, _, rfl, grownCap_ge w (n + m) cap e, grownCap_le_maxLen w (n + m) cap e h63, (fun h => nomatch h), fun a ha => ?_⟩, ?_, .inr ⟨rfl, by simp⟩⟩
      · injection ha with ha; subst ha
        refine ⟨_, rfl, Blk.new _ _ _, ?_, ?_⟩
        · have hge := grownCap_ge w (n + m) cap e
          simp only [Array.size_append, List.size_toArray, size_zeroCells, hzs, hl, hm1, ← Nat.add_mul]
          rw [Nat.zero_add]; apply Nat.mul_le_mul_right; omega
        · simp only [Array.toList_append, List.append_assoc, List.drop_zero]
          rw [← List.append_assoc]
          rw [List.take_append_of_le_length (by simp [hl, hm1, Nat.add_mul])]
          rw [List.take_of_length_le (by simp [hl, hm1, Nat.add_mul])]
      · exact (Mod.refl _ w).drew.alloc _
end app
end Go.Proofs.YtlcjadgaommfmaaDoor
