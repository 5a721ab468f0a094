/- ArenaRoom: what lies in memory from round to round. -/
import Derived.Test.YtfoipadgicjcaaaRoomW
import Derived.Test.YtfoipadgicjcaaaRoomL
namespace Go.Proofs.Ytfoipadgicjcaaa
open Go.RowKit

section
variable {w w1 w' : World} {mb : Nat} {sv : Nat → Value} {M : Nat → List Int}
theorem MadeM.ne (h : MadeM w mb sv M) {t : Nat} (ht : t < 4) : sblk (sv t) ≠ some mb := fun e => by
  obtain ⟨_, cs, hk⟩ := (h.sl t ht).lt e
  exact absurd (hk.inj h.blk).1 (by decide)
theorem made_set (sv : Nat → Value) {t : Nat} (ht : t < 4) (v : Value) : (#[sv 0, sv 1, sv 2, sv 3] : Array Value).setIfInBounds t v = #[upd sv t v 0, upd sv t v 1, upd sv t v 2, upd sv t v 3] := by
  rcases (by omega : t = 0 ∨ t = 1 ∨ t = 2 ∨ t = 3) with rfl | rfl | rfl | rfl <;> rfl
/-- What one tenant made is another list: written beside, then named. -/
theorem MadeM.put (h : MadeM w mb sv M) {t : Nat} (ht : t < 4) {v' : Value} {l : List Int} (hm : Mod (fun b => sblk (sv t) = some b) w w1) (hs : Sl w1 IT 1 v' l.length (intsV l)) (hn : sblk v' = none ∨ sblk v' = sblk (sv t) ∨ ∃ q, sblk v' = some q ∧ w.heap.size ≤ q) :
    MadeM (w1.setCell ⟨mb, t, none⟩ v') mb (upd sv t v') (upd M t l) ∧ Mod (OwnMd mb sv) w (w1.setCell ⟨mb, t, none⟩ v') ∧ (∀ b, OwnMd mb (upd sv t v') b → OwnMd mb sv b ∨ w.heap.size ≤ b) ∧ w1.cell? ⟨mb, t, none⟩ = some (sv t) ∧ w1.frozen? ⟨mb, t, none⟩ = false := by
  have hp := h.blk.lt
  have hb1 : Blk w1 mb T4 #[sv 0, sv 1, sv 2, sv 3] := h.blk.mod hm (h.ne ht)
  have hvp : sblk v' ≠ some mb := by
    rcases hn with h1 | h1 | ⟨q, h1, h2⟩
    · rw [h1]; simp
    · rw [h1]; exact h.ne ht
    · rw [h1]; intro e; have := Option.some.inj e; omega
  have hM : Mod (fun b => b = mb ∨ sblk (sv t) = some b) w (w1.setCell ⟨mb, t, none⟩ v') := (hm.mono fun b _ hx => .inr hx).set (p := ⟨mb, t, none⟩) (fun _ => .inl rfl) _
  have hclash : ∀ k, k < 4 → k ≠ t → ∀ b, sblk v' = some b → sblk (sv k) ≠ some b := by
    intro k hk hne b hb e
    rcases hn with h1 | h1 | ⟨q, h1, h2⟩
    · rw [h1] at hb; cases hb
    · rw [h1] at hb; exact h.sep t k ht hk (Ne.symm hne) b hb e
    · rw [h1] at hb; have := Option.some.inj hb; have := ((h.sl k hk).lt e).1; omega
  refine ⟨⟨by rw [← made_set sv ht v']; exact hb1.set _ _, fun k hk => ?_, fun k k' hk hk' hne b hb => ?_⟩, hM.mono fun b _ hx => ?_, fun b hb => ?_, ?_, hb1.frozen t⟩
  · by_cases e : k = t
    · subst e; rw [upd_same, upd_same]; exact hs.far (p := ⟨mb, k, none⟩) hvp _
    · rw [upd_ne _ _ e, upd_ne _ _ e]
      refine (h.sl k hk).mod hM fun b hb hx => ?_
      rcases hx with rfl | hx
      · exact h.ne hk hb
      · exact h.sep k t hk ht e b hb hx
  · by_cases e : k = t
    · subst e
      rw [upd_same] at hb
      rw [upd_ne _ _ (Ne.symm hne)]
      exact hclash k' hk' (Ne.symm hne) b hb
    · rw [upd_ne _ _ e] at hb
      by_cases e' : k' = t
      · subst e'; rw [upd_same]; intro e2; exact hclash k hk e b e2 hb
      · rw [upd_ne _ _ e']; exact h.sep k k' hk hk' hne b hb
  · rcases hx with rfl | hx
    · exact .inl rfl
    · exact .inr ⟨t, ht, hx⟩
  · rcases hb with rfl | ⟨k, hk, hb⟩
    · exact .inl (.inl rfl)
    · by_cases e : k = t
      · subst e
        rw [upd_same] at hb
        rcases hn with h1 | h1 | ⟨q, h1, h2⟩
        · rw [h1] at hb; cases hb
        · rw [h1] at hb; exact .inl (.inr ⟨k, hk, hb⟩)
        · rw [h1] at hb; have := Option.some.inj hb; subst this; exact .inr h2
      · rw [upd_ne _ _ e] at hb; exact .inl (.inr ⟨k, hk, hb⟩)
  · refine hb1.cellS ?_
    rcases (by omega : t = 0 ∨ t = 1 ∨ t = 2 ∨ t = 3) with rfl | rfl | rfl | rfl <;> rfl
end

abbrev TQ := 37
def q4 (q0 q1 q2 q3 : Int) (k : Nat) : Int := if k = 0 then q0 else if k = 1 then q1 else if k = 2 then q2 else q3
def quotaC (q : Nat → Int) : Array Value := #[.int .i64 (q 0), .int .i64 (q 1), .int .i64 (q 2), .int .i64 (q 3)]
theorem quotaC_at (q : Nat → Int) {t : Nat} (h : t < 4) : (quotaC q)[t]? = some (.int .i64 (q t)) := by
  rcases (by omega : t = 0 ∨ t = 1 ∨ t = 2 ∨ t = 3) with rfl | rfl | rfl | rfl <;> rfl
theorem quotaC_set (q : Nat → Int) {t : Nat} (h : t < 4) (x : Int) : (quotaC q).setIfInBounds t (.int .i64 x) = quotaC (upd q t x) := by
  rcases (by omega : t = 0 ∨ t = 1 ∨ t = 2 ∨ t = 3) with rfl | rfl | rfl | rfl <;> rfl
def sumQ (q : Nat → Int) : Nat → Int
  | 0 => 0
  | n + 1 => sumQ q n + q n
theorem sumQ_rng {q : Nat → Int} (h : ∀ k, 0 ≤ q k ∧ q k ≤ 25) : ∀ t, 0 ≤ sumQ q t ∧ sumQ q t ≤ 25 * t
  | 0 => by simp [sumQ]
  | t + 1 => by have := sumQ_rng h t; have := h t; simp only [sumQ]; omega
theorem mod26 (x : Int) : 0 ≤ x % 26 ∧ x % 26 ≤ 25 := by omega
structure RoomA (W wx : World) (p : Nat) (R : ArR) (qf : Nat → Int) (t : Nat) (qu : Nat → Int) : Prop where
  arm : ArM wx p R { newA 100 64 with quota := qu }
  blk : Blk wx W.heap.size TQ (quotaC fun k => if k < t then qf k % 26 else qf k)
  qu : ∀ k, k < t → qu k = qf k % 26
  below : Below W.heap.size W wx
section
variable {W wx w' : World} {p : Nat} {R R' : ArR} {qf qu : Nat → Int} {t : Nat}
theorem RoomA.at (h : RoomA W wx p R qf t qu) (ht : t < 4) : wx.cell? ⟨W.heap.size, t, none⟩ = some (.int .i64 (qf t)) := by
  have := h.blk.cellS (quotaC_at _ ht)
  rw [if_neg (Nat.lt_irrefl t)] at this; exact this
theorem RoomA.next (h : RoomA W wx p R qf t qu) (hO : ∀ b, Own p R b → W.heap.size < b) (ht : t < 4) (h1 : ArM w' p R { newA 100 64 with quota := upd qu t (qf t % 26) }) (h2 : Step p R R (wx.setCell ⟨W.heap.size, t, none⟩ (.int .i64 (qf t % 26))) w') : RoomA W w' p R qf (t + 1) (upd qu t (qf t % 26)) := by
  refine ⟨h1, ?_, fun k hk => ?_, ?_⟩
  · have hb := (h.blk.set t (.int .i64 (qf t % 26))).mod h2.mod fun ho => absurd (hO _ ho) (Nat.lt_irrefl _)
    rw [quotaC_set _ ht] at hb
    have e : upd (fun k => if k < t then qf k % 26 else qf k) t (qf t % 26) = fun k => if k < t + 1 then qf k % 26 else qf k := by
      funext k
      by_cases hk : k = t
      · subst hk; rw [upd_same, if_pos (Nat.lt_succ_self _)]
      · rw [upd_ne _ _ hk]
        by_cases hlt : k < t
        · rw [if_pos hlt, if_pos (by omega)]
        · rw [if_neg hlt, if_neg (by omega)]
    rw [e] at hb; exact hb
  · by_cases hkt : k = t
    · subst hkt; rw [upd_same]
    · rw [upd_ne _ _ hkt]; exact h.qu k (by omega)
  · have hb := h.below.setCell (p := ⟨W.heap.size, t, none⟩) (Nat.le_refl _) (.int .i64 (qf t % 26))
    exact hb.trans (h2.mod.below hb.size fun b hb ho => absurd (hO b ho) (by omega))
end
theorem Tame.sums {Q : Nat → Int} {S : ArS} {i : Nat} (h : Tame Q S i) : ∀ t, t ≤ 4 → 0 ≤ sumQ S.count t ∧ sumQ S.count t ≤ sumQ Q t ∧ sumQ Q t ≤ 25 * t
  | 0, _ => by simp [sumQ]
  | t + 1, ht => by
    have ih := h.sums t (by omega)
    have h1 := h.le t (by omega)
    have h2 := h.q t (by omega)
    have h3 := (h.inv.cnt_le (t := t) (by omega)).1
    simp only [sumQ]; omega
theorem Tame.wrap {Q : Nat → Int} {S : ArS} {i t : Nat} (h : Tame Q S i) (ht : t < 4) : IntKind.i64.wrap (sumQ S.count t + S.count t) = sumQ S.count (t + 1) := by
  have h1 := h.sums (t + 1) ht
  have h2 := h.sums t (by omega)
  simp only [sumQ] at h1 ⊢
  rw [IntKind.wrap_i64]; omega
theorem Tame.swept {Q : Nat → Int} {S S' : ArS} {i n : Nat} (h : Tame Q S i) (hs : SweepR S S' n) : S'.live ≤ sumQ S.count 4 := by
  have := swept_sum h.inv h.live hs h.rest
  simp only [sumQ]; omega
/-- What is so ahead of a round: i deeds behind the start, of which each made j things at most. -/
structure RoomB (W wx : World) (p : Nat) (R : ArR) (S : ArS) (Q : Nat → Int) (mb : Nat) (sv : Nat → Value) (M : Nat → List Int) (i j : Nat) : Prop where
  arm : ArM wx p R S
  tame : Tame Q S i
  blk : Blk wx W.heap.size TQ (quotaC Q)
  made : MadeM wx mb sv M
  len : ∀ t, t < 4 → (M t).length ≤ j
  rng : ∀ t, t < 4 → ∀ x ∈ M t, i64r x
  sep : ∀ b, OwnMd mb sv b → ¬ Own p R b
  mlt : ∀ b, OwnMd mb sv b → W.heap.size < b
  own : ∀ b, Own p R b → W.heap.size < b
  below : Below W.heap.size W wx
section
variable {W wx w1 w' : World} {p : Nat} {R R' : ArR} {S S' : ArS} {Q : Nat → Int} {mb : Nat} {sv : Nat → Value} {M : Nat → List Int} {i j : Nat}
theorem RoomB.still (h : RoomB W wx p R S Q mb sv M i j) (hm : Mod (fun _ => False) wx w1) : RoomB W w1 p R S Q mb sv M i j :=
  ⟨h.arm.keep hm fun _ _ hf => hf, h.tame, h.blk.mod hm fun hf => hf, h.made.keep hm fun _ _ hf => hf, h.len, h.rng, h.sep, h.mlt, h.own, h.below.trans (hm.below h.below.size fun _ _ hf => hf)⟩
theorem RoomB.step (h : RoomB W wx p R S Q mb sv M i j) (hs : Step p R R' wx w') (ha : ArM w' p R' S') (ht : Tame Q S' (i + 1)) : RoomB W w' p R' S' Q mb sv M (i + 1) j := by
  have hlt := h.blk.lt
  refine ⟨ha, ht, h.blk.mod hs.mod fun ho => absurd (h.own _ ho) (Nat.lt_irrefl _), h.made.keep hs.mod h.sep, h.len, h.rng, fun b hb ho => ?_, h.mlt, fun b ho => ?_, h.below.trans (hs.mod.below h.below.size fun b hb ho => absurd (h.own b ho) (by omega))⟩
  · rcases hs.own b ho with h1 | h1
    · exact h.sep b hb h1
    · have := h.made.lt hb; omega
  · rcases hs.own b ho with h1 | h1
    · exact h.own b h1
    · omega
theorem ArM.drewN (h : ArM wx p R S) (n : Nat) : ArM (wx.drewN n) p R S := ⟨h.blk, h.list, h.idx.of_block rfl, h.free, h.added, h.sep1, h.sep2, h.masks⟩
theorem RoomB.drewN (h : RoomB W wx p R S Q mb sv M i j) (n : Nat) : RoomB W (wx.drewN n) p R S Q mb sv M i j :=
  h.still ((Mod.refl _ _).drewN n)
theorem RoomB.mono (h : RoomB W wx p R S Q mb sv M i j) : RoomB W wx p R S Q mb sv M i (j + 1) := ⟨h.arm, h.tame, h.blk, h.made, fun t ht => Nat.le_succ_of_le (h.len t ht), h.rng, h.sep, h.mlt, h.own, h.below⟩
theorem RoomB.idle (h : RoomB W wx p R S Q mb sv M i j) : RoomB W wx p R S Q mb sv M (i + 1) j := ⟨h.arm, h.tame.mono, h.blk, h.made, h.len, h.rng, h.sep, h.mlt, h.own, h.below⟩
theorem RoomB.app (h : RoomB W wx p R S Q mb sv M i j) {t : Nat} (ht : t < 4) {v' : Value} {x : Int} (hx : i64r x) (hm : Mod (fun b => sblk (sv t) = some b) wx w1) (hs : Sl w1 IT 1 v' ((M t).length + 1) (intsV (M t) ++ [.int .i64 x])) (hn : sblk v' = sblk (sv t) ∨ sblk v' = some wx.heap.size ∧ wx.heap.size < w1.heap.size) :
    w1.cell? ⟨mb, t, none⟩ = some (sv t) ∧ w1.frozen? ⟨mb, t, none⟩ = false ∧ RoomB W (w1.setCell ⟨mb, t, none⟩ v') p R S Q mb (upd sv t v') (upd M t (M t ++ [x])) i (j + 1) := by
  have hs2 : Sl w1 IT 1 v' (M t ++ [x]).length (intsV (M t ++ [x])) := by
    have e : intsV (M t ++ [x]) = intsV (M t) ++ [.int .i64 x] := by simp [intsV]
    rw [e, List.length_append]; exact hs
  obtain ⟨m1, m2, m3, m4, m5⟩ := h.made.put ht hm hs2 (.inr (hn.imp id fun e => ⟨_, e.1, Nat.le_refl _⟩))
  have hlt := h.blk.lt
  refine ⟨m4, m5, h.arm.keep m2 fun b ho hb => h.sep b hb ho, h.tame, h.blk.mod m2 fun hb => absurd (h.mlt _ hb) (Nat.lt_irrefl _), m1, fun k hk => ?_, fun k hk y hy => ?_, fun b hb ho => ?_, fun b hb => ?_, h.own, h.below.trans (m2.below h.below.size fun b hb ho => absurd (h.mlt b ho) (by omega))⟩
  · have := h.len k hk
    by_cases e : k = t
    · subst e; rw [upd_same]; simp; omega
    · rw [upd_ne _ _ e]; omega
  · by_cases e : k = t
    · subst e; rw [upd_same] at hy
      rcases List.mem_append.1 hy with h1 | h1
      · exact h.rng k hk y h1
      · rw [List.mem_singleton.1 h1]; exact hx
    · rw [upd_ne _ _ e] at hy; exact h.rng k hk y hy
  · rcases m3 b hb with h1 | h1
    · exact h.sep b h1 ho
    · have := h.arm.own_lt ho; omega
  · rcases m3 b hb with h1 | h1
    · exact h.mlt b h1
    · omega
theorem RoomB.appEnd (h : RoomB W wx p R S Q mb sv M i j) {t tb : Nat} (ht : t < 4) {v v' : Value} {ob : Obj} {x : Int} {n m : Nat} (hv : sv t = v) (hx : i64r x) (hb : Blk wx tb IT #[.int .i64 t]) (hne : ∀ b, OwnMd mb sv b → b ≠ tb) (hm : Mod (fun b => sblk v = some b) (wx.alloc ob) w1) (hs : Sl w1 IT 1 v' n (intsV (M t) ++ [.int .i64 x])) (hlen : (M t).length = m) (hn1 : n = m + 1)
    (hn : sblk v' = sblk v ∨ sblk v' = some (wx.alloc ob).heap.size ∧ (wx.alloc ob).heap.size < w1.heap.size) :
    w1.cell? ⟨mb, t, none⟩ = some v ∧ w1.frozen? ⟨mb, t, none⟩ = false ∧ w1.cell? ⟨tb, 0, none⟩ = some (.int .i64 t) ∧ Blk (w1.setCell ⟨mb, t, none⟩ v') tb IT #[.int .i64 t] ∧ RoomB W (w1.setCell ⟨mb, t, none⟩ v') p R S Q mb (upd sv t v') (upd M t (M t ++ [x])) i (j + 1) := by
  subst hv
  subst hlen
  subst hn1
  obtain ⟨h1, h2, h3⟩ := (h.still ((Mod.refl _ _).alloc ob)).app ht hx hm hs hn
  have hb1 : Blk w1 tb IT #[.int .i64 t] := (hb.alloc ob).mod hm fun e => hne tb (.inr ⟨t, ht, e⟩) rfl
  exact ⟨h1, h2, hb1.cellS rfl, hb1.far (p := ⟨mb, t, none⟩) (fun e => hne mb (.inl rfl) e.symm) _, h3⟩
theorem RoomA.begin {qf qu : Nat → Int} {w2 : World} (h : RoomA W wx p R qf 4 qu) (hO : ∀ b, Own p R b → W.heap.size < b) (he : wx.alloc (.cells #[nilV, nilV, nilV, nilV] T4) = w2) :
    RoomB W w2 p R { newA 100 64 with quota := qu } (fun k => qf k % 26) wx.heap.size (fun _ => nilV) (fun _ => []) 0 0 := by
  subst he
  have hlt := h.blk.lt
  refine ⟨h.arm.alloc _, ⟨(newA_inv (by decide) 64).quota qu, rfl, rfl, fun _ _ _ => rfl, fun t ht => h.qu t ht, fun t _ => mod26 _, fun t _ => (mod26 _).1, fun t _ => Nat.zero_le _⟩, h.blk.alloc _, ⟨Blk.new _ _ _, fun t _ => Sl.nil _ _ _, fun t t' _ _ _ b hb => by simp [nilV, sblk] at hb⟩, fun _ _ => Nat.zero_le _, fun _ _ x hx => absurd hx (List.not_mem_nil), fun b hb ho => ?_, fun b hb => ?_, hO, h.below.alloc h.below.size _⟩
  · rcases hb with rfl | ⟨t, _, hb⟩
    · have := h.arm.own_lt ho; omega
    · simp [nilV, sblk] at hb
  · rcases hb with rfl | ⟨t, _, hb⟩
    · exact hlt
    · simp [nilV, sblk] at hb
theorem pickId_rng {l : List Int} (h : ∀ x ∈ l, i64r x) (hl : l.length ≤ 1000) (n : Int) : i64r (pickId l n) := by
  unfold pickId
  split
  · rename_i hlt
    have := Int.emod_nonneg n (show ((l.length : Int) + 2) ≠ 0 by omega)
    exact ⟨by omega, by omega⟩
  · rw [List.getD_eq_getElem?_getD]
    cases hx : l[(n % ((l.length : Int) + 2) - 2).toNat]? with
    | none => exact ⟨by decide, by decide⟩
    | some x => exact h x (List.mem_of_getElem? hx)
end
end Go.Proofs.Ytfoipadgicjcaaa
