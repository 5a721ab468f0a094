/- Lists without neighbours that are alike; rows of cells as functions. No program is named here. · Cells as values: compared, laid anew. · slices.Compact at []api.Cell. · quad: the four parts of a list of cells, in plain words and in memory. · leap: grid. -/
import Derived.Test.YtgdijlpkbbfedaaRows
import Derived.BigQuiet
import Derived.Deep.QuietTactic
import Derived.Laws.StructEq
import Derived.Test.YtgdijlpkbbfedaaZ1
import Derived.Test.YtgdijlpkbbfedaaZ5

namespace Go.Proofs.Ytgdijlpkbbfedaa
open Go.RowKit

section
variable {α : Type} [DecidableEq α]
def compStep (acc : List α) (x : α) : List α := if acc.getLast? = some x then acc else acc ++ [x]
/-- Of neighbours that are alike one stays. -/
def compactL (l : List α) : List α := l.foldl compStep []
theorem compactL_snoc (l : List α) (x : α) : compactL (l ++ [x]) = compStep (compactL l) x := by simp [compactL]
theorem compStep_last (acc : List α) (x : α) : (compStep acc x).getLast? = some x := by
  unfold compStep; split
  · assumption
  · simp
omit [DecidableEq α] in
theorem snoc_ind {p : List α → Prop} (h0 : p []) (h1 : ∀ l x, p l → p (l ++ [x])) : ∀ l, p l := by
  intro l
  have : ∀ n (l : List α), l.length = n → p l := by
    intro n
    induction n with
    | zero => intro l hl; rw [List.eq_nil_of_length_eq_zero hl]; exact h0
    | succ n ih =>
      intro l hl
      have hne : l ≠ [] := by intro e; subst e; simp at hl
      rw [← List.dropLast_concat_getLast hne]
      exact h1 _ _ (ih _ (by simp [hl]))
  exact this _ l rfl
theorem compactL_last (l : List α) : (compactL l).getLast? = l.getLast? := by
  refine snoc_ind (p := fun l => (compactL l).getLast? = l.getLast?) rfl ?_ l
  intro l x _
  rw [compactL_snoc, compStep_last]; simp
theorem compactL_mem (l : List α) (c : α) : c ∈ compactL l ↔ c ∈ l := by
  refine snoc_ind (p := fun l => c ∈ compactL l ↔ c ∈ l) (by simp [compactL]) ?_ l
  intro l x ih
  rw [compactL_snoc]; unfold compStep; split
  · rename_i h
    have hx : x ∈ compactL l := List.mem_of_getLast? h
    rw [ih]; simp only [List.mem_append, List.mem_singleton]
    constructor
    · exact fun h => .inl h
    · rintro (h | rfl)
      · exact h
      · refine (by
          have := compactL_last l
          rw [h] at this
          exact List.mem_of_getLast? this.symm)
  · simp [ih]
theorem compactL_sorted {lt : α → α → Prop} (hirr : ∀ a, ¬ lt a a) (htr : ∀ a b c, lt a b → lt b c → lt a c) (l : List α) (hs : l.Pairwise fun a b => lt a b ∨ a = b) : (compactL l).Pairwise lt := by
  revert hs
  refine snoc_ind (p := fun l => (l.Pairwise fun a b => lt a b ∨ a = b) → (compactL l).Pairwise lt) (by simp [compactL]) ?_ l
  intro l x ih hs
  rw [List.pairwise_append] at hs
  obtain ⟨h1, _, h3⟩ := hs
  rw [compactL_snoc]; unfold compStep; split
  · exact ih h1
  · rename_i hne
    rw [List.pairwise_append]
    refine ⟨ih h1, by simp, ?_⟩
    intro a ha b hb
    simp at hb; subst hb
    have ha' : a ∈ l := (compactL_mem l a).1 ha
    rcases h3 a ha' b (by simp) with h | h
    · exact h
    · subst h
      -- a is in the compact list, which is sorted, and its last is not a: then a < last ≤ a
      exfalso
      have hl : compactL l ≠ [] := by intro e; rw [e] at ha; simp at ha
      obtain ⟨la, hla⟩ : ∃ la, (compactL l).getLast? = some la := by
        rw [List.getLast?_eq_some_getLast hl]; exact ⟨_, rfl⟩
      have hd := List.dropLast_concat_getLast hl
      have e2 : (compactL l).getLast hl = la := by rw [List.getLast?_eq_some_getLast hl] at hla; injection hla
      rw [e2] at hd
      have hp := ih h1
      rw [← hd] at hp ha
      rw [List.pairwise_append] at hp
      simp only [List.mem_append, List.mem_singleton] at ha
      have hlam : la ∈ l := (compactL_mem l la).1 (List.mem_of_getLast? hla)
      rcases ha with ha | rfl
      · have h4 := hp.2.2 a ha la (by simp)
        rcases h3 la hlam a (by simp) with h5 | h5
        · have h6 := htr _ _ _ h4 h5
          exact hirr a h6
        · exact hne (by rw [hla, h5])
      · exact hne hla
end
end Go.Proofs.Ytgdijlpkbbfedaa

namespace Go.Proofs.Ytgdijlpkbbfedaa
open Go.RowKit

def eqC (a b : Int × Int) : Bool := a.1 == b.1 && a.2 == b.2
theorem eqC_true (a b : Int × Int) : eqC a b = true ↔ a = b := by
  unfold eqC; simp [Prod.ext_iff]
theorem eqC_false (a b : Int × Int) : eqC a b = false ↔ a ≠ b := by
  have := eqC_true a b
  cases h : eqC a b <;> simp_all

theorem run_eqC (a b : Int × Int) (w : World) : (binOp .eql 37 (.agg #[.int .i64 a.1, .int .i64 a.2]) (.agg #[.int .i64 b.1, .int .i64 b.2])).run Try.prog w = .ok (.bool (eqC a b)) w := by
  have hS : Try.prog.underlying 37 = some (.struct (Try.prog.fieldsOf 37)) := by kernel_rfl
  have hp : Try.prog.stoodInHeld 37 = false := by kernel_rfl
  have u3 := Try.underlying3
  have z3 := Try.sizeOf3
  have a3 := Try.isAgg3
  rw [run_eql_struct, show (10000 : Nat) = 9999 + 1 from rfl, run_equalIn_agg w 9999 _ _ _ hS hp]
  simp only [Program.fieldsOf, Try.underlying37]
  go_simp
  unfold eqC
  by_cases h1 : a.1 = b.1 <;> by_cases h2 : a.2 = b.2 <;> simp [h1, h2]
theorem run_neC (a b : Int × Int) (w : World) : (binOp .neq 37 (.agg #[.int .i64 a.1, .int .i64 a.2]) (.agg #[.int .i64 b.1, .int .i64 b.2])).run Try.prog w = .ok (.bool (!eqC a b)) w := by
  have hS : Try.prog.underlying 37 = some (.struct (Try.prog.fieldsOf 37)) := by kernel_rfl
  have hp : Try.prog.stoodInHeld 37 = false := by kernel_rfl
  have u3 := Try.underlying3
  have z3 := Try.sizeOf3
  have a3 := Try.isAgg3
  rw [run_neq_struct, show (10000 : Nat) = 9999 + 1 from rfl, run_equalIn_agg w 9999 _ _ _ hS hp]
  simp only [Program.fieldsOf, Try.underlying37]
  go_simp
  unfold eqC
  by_cases h1 : a.1 = b.1 <;> by_cases h2 : a.2 = b.2 <;> simp [h1, h2]

theorem Try.info37 : (Try.prog.info? 37).map (fun i => (i.zero, i.size, i.bytes)) = some (some (.agg #[.int .i64 0, .int .i64 0]), 2, 16) := by kernel_rfl

theorem fresh_cells (w : World) (l : List (Int × Int)) (n : Nat) (hl : l.length = n) (hn : n ≤ maxLen) :
    Rd (w.alloc (.cells (flat l).toArray 37)) (w.heap.size + 1) 2 (.slice (some ⟨w.heap.size, 0, none⟩) n n) n (flat l) := by
  have := Rd.fresh w 37 (flat l).toArray 2 n (by simp [flat_length, hl]) hn
  simpa using this
end Go.Proofs.Ytgdijlpkbbfedaa

namespace Go.Proofs.Ytgdijlpkbbfedaa
open Go.RowKit

def zeros (k : Nat) : List (Int × Int) := List.replicate k (0, 0)

/-- The cells of a row from place i on are set to zero. -/
theorem RowC.zeros {w : World} {t b off n : Nat} {F : Nat → Int × Int} (h : RowC w t b off n F) : ∀ (k i : Nat), i + k ≤ n →
    RowC (w.setCells b (off + i * 2) (flat (zeros k))) t b off n (fun j => if i ≤ j ∧ j < i + k then (0, 0) else F j) := by
  intro k
  induction k generalizing w F with
  | zero =>
    intro i _
    exact h.congr fun j _ => by rw [if_neg (by omega)]
  | succ k ih =>
    intro i hi
    have h1 := ih (h.set (i := i) (by omega) 0 0) (i + 1) (by omega)
    have e : w.setCells b (off + i * 2) (flat (Ytgdijlpkbbfedaa.zeros (k + 1))) = ((w.setCell ⟨b, off + i * 2, none⟩ (.int .i64 0)).setCell ⟨b, off + i * 2 + 1, none⟩ (.int .i64 0)).setCells b (off + (i + 1) * 2) (flat (Ytgdijlpkbbfedaa.zeros k)) := by
      show w.setCells b (off + i * 2) (.int .i64 0 :: .int .i64 0 :: flat (Ytgdijlpkbbfedaa.zeros k)) = _
      rw [World.setCells, World.setCells]
      rw [show off + (i + 1) * 2 = off + i * 2 + 1 + 1 by omega]
    rw [e]
    refine h1.congr fun j hj => ?_
    by_cases e1 : i + 1 ≤ j ∧ j < i + 1 + k
    · rw [if_pos e1, if_pos (by omega)]
    · rw [if_neg e1]
      by_cases e2 : j = i
      · rw [if_pos e2, if_pos (by omega)]
      · rw [if_neg e2, if_neg (by omega)]

theorem zeroCells_flat (k : Nat) : (Builtin.zeroCells #[.int .i64 0, .int .i64 0] k).toList = flat (zeros k) := by
  have h : ∀ k, (List.range (k * 2)).map (fun i => (#[Value.int .i64 0, Value.int .i64 0] : Array Value)[i % 2]!) = flat (zeros k) := by
    intro k
    induction k with
    | zero => rfl
    | succ k ih =>
      rw [show (k + 1) * 2 = k * 2 + 1 + 1 by omega, List.range_succ, List.range_succ]
      simp only [List.map_append, ih, List.map_cons, List.map_nil, zeros, List.replicate_succ']
      rw [flat_append]
      rw [show (k * 2) % 2 = 0 by omega, show (k * 2 + 1) % 2 = 1 by omega]
      simp [flat]
  have := h k
  unfold Builtin.zeroCells
  simpa using this

/-- clear of the cells from i on. -/
theorem run_clear_cells (w : World) (ty : TypeId) {b off n : Nat} {F : Nat → Int × Int} (h : RowC w 37 b off n F) {i k c : Nat} (hi : i + k ≤ n) (hk : 0 < k) :
    (Builtin.clear_ #[24] ty #[.slice (some ⟨b, off + i * 2, none⟩) k c]).run Try.prog w = .ok (.tuple #[]) (w.setCells b (off + i * 2) (flat (zeros k))) := by
  obtain ⟨cs, h1, h2, h3⟩ := h
  have hz : (zeroValue 37).run Try.prog w = .ok (.agg #[.int .i64 0, .int .i64 0]) w := Try.zeroValue37 w
  have hl : (flat (zeros k)).length = k * 2 := by rw [flat_length]; simp [zeros]
  have hst := run_storeCells_cells (P := Try.prog) b (off + i * 2) (flat (zeros k)) 0 w
    (fun j hj => by rw [Nat.add_zero, h1.cell, Array.getElem?_eq_getElem (by omega)]; rfl) (fun j hj => h1.frozen _) flat_one
  simp only [Nat.add_zero] at hst
  have hk0 : k ≠ 0 := by omega
  cases k with
  | zero => omega
  | succ k =>
    simp only [Builtin.clear_]
    simp [run_underlying Try.underlying24, hz, Value.cells, zeroCells_flat, hst]
end Go.Proofs.Ytgdijlpkbbfedaa

namespace Go.Proofs.Ytgdijlpkbbfedaa
open Go.RowKit

def qd (h x y : Int) (c : Int × Int) : Nat := (if x + h ≤ c.1 then 1 else 0) + (if y + h ≤ c.2 then 2 else 0)
def gx (h x : Int) (k : Nat) : Int := if k = 1 ∨ k = 3 then x + h else x
def gy (h y : Int) (k : Nat) : Int := if k = 2 ∨ k = 3 then y + h else y
theorem qd_lt (h x y : Int) (c : Int × Int) : qd h x y c < 4 := by unfold qd; split <;> split <;> omega
def part (h x y : Int) (k : Nat) (l : List (Int × Int)) : List (Int × Int) := l.filter fun c => decide (qd h x y c = k)
theorem part_snoc (h x y : Int) (k : Nat) (l : List (Int × Int)) (c : Int × Int) : part h x y k (l ++ [c]) = if qd h x y c = k then part h x y k l ++ [c] else part h x y k l := by
  unfold part
  rw [List.filter_append]
  by_cases e : qd h x y c = k
  · rw [if_pos e]; simp [e]
  · rw [if_neg e]; simp [e]
theorem part_len (h x y : Int) (k : Nat) (l : List (Int × Int)) : (part h x y k l).length ≤ l.length := List.length_filter_le _ _
theorem part_mem {h x y : Int} {k : Nat} {l : List (Int × Int)} {c : Int × Int} : c ∈ part h x y k l ↔ c ∈ l ∧ qd h x y c = k := by
  unfold part; rw [List.mem_filter, decide_eq_true_eq]
theorem qd_in {n : Nat} {x y a b : Int} {k : Nat} (hb : inB (n + 1) x y a b) : qd (2 ^ n) x y (a, b) = k ↔ k < 4 ∧ inB n (gx (2 ^ n) x k) (gy (2 ^ n) y k) a b := by
  have hp := pow_pos2 n
  unfold inB at hb ⊢
  rw [Int.pow_succ] at hb
  unfold qd gx gy
  generalize (2 : Int) ^ n = h at *
  constructor
  · intro e
    subst e
    by_cases h1 : x + h ≤ a <;> by_cases h2 : y + h ≤ b <;> simp [h1, h2] <;> omega
  · rintro ⟨hk, e⟩
    rcases (by omega : k = 0 ∨ k = 1 ∨ k = 2 ∨ k = 3) with rfl | rfl | rfl | rfl
    · simp at e; rw [if_neg (by omega), if_neg (by omega)]
    · simp at e; rw [if_pos (by omega), if_neg (by omega)]
    · simp at e; rw [if_neg (by omega), if_pos (by omega)]
    · simp at e; rw [if_pos (by omega), if_pos (by omega)]
theorem sub_in {n : Nat} {x y a b : Int} {k : Nat} (hk : k < 4) (hb : inB n (gx (2 ^ n) x k) (gy (2 ^ n) y k) a b) : inB (n + 1) x y a b := by
  rw [inB.up]
  rcases (by omega : k = 0 ∨ k = 1 ∨ k = 2 ∨ k = 3) with rfl | rfl | rfl | rfl
  · exact .inl hb
  · exact .inr (.inl hb)
  · exact .inr (.inr (.inl hb))
  · exact .inr (.inr (.inr hb))
theorem tree_part {n : Nat} {x y : Int} {l : List (Int × Int)} {k : Nat} (hk : k < 4) : treeOf (setOfL (part (2 ^ n) x y k l)) n (gx (2 ^ n) x k) (gy (2 ^ n) y k) = treeOf (setOfL l) n (gx (2 ^ n) x k) (gy (2 ^ n) y k) :=
  treeOf_congr fun a b hb => by
    unfold setOfL
    rw [decide_eq_decide, part_mem]
    exact ⟨fun h => h.1, fun h => ⟨h, (qd_in (sub_in hk hb)).2 ⟨hk, hb⟩⟩⟩
theorem part_in {n : Nat} {x y : Int} {l : List (Int × Int)} {k : Nat} (hin : ∀ c ∈ l, inB (n + 1) x y c.1 c.2) : ∀ c ∈ part (2 ^ n) x y k l, inB n (gx (2 ^ n) x k) (gy (2 ^ n) y k) c.1 c.2 := fun c hc => by
  obtain ⟨h1, h2⟩ := part_mem.1 hc
  exact ((qd_in (hin c h1)).1 h2).2

/-- The square of a part. -/
def partT (l : List (Int × Int)) (n : Nat) (x y : Int) (k : Nat) : Tree := treeOf (setOfL l) n (gx (2 ^ n) x k) (gy (2 ^ n) y k)
theorem partT_all (l : List (Int × Int)) (n : Nat) (x y : Int) : treeOf (setOfL l) (n + 1) x y = .node (partT l n x y 0) (partT l n x y 1) (partT l n x y 2) (partT l n x y 3) := by
  simp [treeOf, partT, gx, gy]
theorem partT_lvl (l : List (Int × Int)) (n : Nat) (x y : Int) (k : Nat) : (partT l n x y k).lvl = n := treeOf_lvl _ _ _ _
theorem gx_bd {n : Nat} {x : Int} (k : Nat) (h : -35184372088832 ≤ x ∧ x + 2 ^ (n + 1) ≤ 35184372088832) : -35184372088832 ≤ gx (2 ^ n) x k ∧ gx (2 ^ n) x k + 2 ^ n ≤ 35184372088832 := by
  have := pow_pos2 n
  rw [Int.pow_succ] at h
  unfold gx; split <;> omega
theorem gy_bd {n : Nat} {y : Int} (k : Nat) (h : -35184372088832 ≤ y ∧ y + 2 ^ (n + 1) ≤ 35184372088832) : -35184372088832 ≤ gy (2 ^ n) y k ∧ gy (2 ^ n) y k + 2 ^ n ≤ 35184372088832 := by
  have := pow_pos2 n
  rw [Int.pow_succ] at h
  unfold gy; split <;> omega
def VC (V : Nat → Value) : Array Value := #[V 0, V 1, V 2, V 3]
theorem VC_set (V : Nat → Value) {k : Nat} (hk : k < 4) (v : Value) : (VC V).setIfInBounds k v = VC (upd V k v) := by
  rcases (by omega : k = 0 ∨ k = 1 ∨ k = 2 ∨ k = 3) with rfl | rfl | rfl | rfl <;> rfl
theorem VC_get (V : Nat → Value) {k : Nat} (hk : k < 4) : (VC V)[k]? = some (V k) := by
  rcases (by omega : k = 0 ∨ k = 1 ∨ k = 2 ∨ k = 3) with rfl | rfl | rfl | rfl <;> rfl
abbrev CT := 37
/-- The parts of the first i cells, as they lie. -/
structure PartI (w : World) (h x y : Int) (l : List (Int × Int)) (V : Nat → Value) (i : Nat) (wx : World) : Prop where
  blk : Blk wx w.heap.size 88 (VC V)
  sl : ∀ k, k < 4 → Sl wx CT 2 (V k) (part h x y k (l.take i)).length (flat (part h x y k (l.take i)))
  fr : ∀ k, k < 4 → ∀ b, sblk (V k) = some b → w.heap.size < b
  ds : ∀ k k', k < 4 → k' < 4 → k ≠ k' → ∀ b, sblk (V k) = some b → sblk (V k') ≠ some b
  bl : Below w.heap.size w wx
section
variable {w wx wy w1 : World} {h x y : Int} {l : List (Int × Int)} {V : Nat → Value} {i : Nat}
theorem PartI.start (w : World) (h x y : Int) (l : List (Int × Int)) : PartI w h x y l (fun _ => nilV) 0 (w.alloc (.cells #[nilV, nilV, nilV, nilV] 88)) :=
  ⟨Blk.new w _ _, fun k hk => by rw [show part h x y k (l.take 0) = [] by simp [part]]; exact Sl.nil _ _ _, fun k _ b hb => by simp [nilV, sblk] at hb, fun k k' _ _ _ b hb => by simp [nilV, sblk] at hb, (Below.refl _ _).alloc (Nat.le_refl _) _⟩
theorem PartI.below (hp : PartI w h x y l V i wx) (hb : Below wx.heap.size wx wy) : PartI w h x y l V i wy :=
  ⟨hp.blk.mod (Mod.of_below_all hb) (fun h => h), fun k hk => (hp.sl k hk).mod (Mod.of_below_all hb) (fun _ _ h => h), hp.fr, hp.ds, hp.bl.trans (hb.mono hp.bl.size)⟩
/-- One more cell. -/
theorem PartI.step (hp : PartI w h x y l V i wx) {c : Int × Int} (hc : l[i]? = some c) {k : Nat} (hk : qd h x y c = k) {v' : Value} (hb : Below wx.heap.size wx wy) (hm : Mod (fun b => sblk (V k) = some b) wy w1)
    (hs : Sl w1 CT 2 v' ((part h x y k (l.take i)).length + 1) (flat (part h x y k (l.take i)) ++ flat [c])) (hd : sblk v' = sblk (V k) ∨ sblk v' = some wy.heap.size ∧ wy.heap.size < w1.heap.size) :
    PartI w h x y l (upd V k v') (i + 1) (w1.setCell ⟨w.heap.size, k, none⟩ v') := by
  have hk4 : k < 4 := by rw [← hk]; exact qd_lt h x y c
  have hq := hp.below hb
  have ht : l.take (i + 1) = l.take i ++ [c] := by
    obtain ⟨hl, rfl⟩ := List.getElem?_eq_some_iff.1 hc
    exact List.take_succ_eq_append_getElem hl
  have hpb : w.heap.size < wy.heap.size := hq.blk.lt
  have hfv : ∀ b, sblk v' = some b → w.heap.size < b := fun b e => by
    rcases hd with d | ⟨d, _⟩
    · exact hq.fr k hk4 b (d ▸ e)
    · rw [d] at e; injection e with e; omega
  have hkb : sblk (V k) ≠ some w.heap.size := fun e => Nat.lt_irrefl _ (hq.fr k hk4 _ e)
  refine ⟨?_, fun j hj => ?_, fun j hj b hb => ?_, fun j j' hj hj' hne b hb => ?_, ?_⟩
  · rw [← VC_set V hk4]
    exact (hq.blk.mod hm hkb).set k _
  · rw [ht, part_snoc]
    by_cases e : j = k
    · subst e
      rw [upd_same, if_pos hk, flat_append, List.length_append]
      exact hs.far (p := ⟨w.heap.size, j, none⟩) (fun e => Nat.lt_irrefl _ (hfv _ e)) _
    · rw [upd_ne _ _ e, if_neg (fun q : qd h x y c = j => e (q.symm.trans hk))]
      refine ((hq.sl j hj).mod hm fun b hb h2 => ?_).far (p := ⟨w.heap.size, k, none⟩) (fun h => Nat.lt_irrefl _ (hq.fr j hj _ h)) _
      exact hq.ds j k hj hk4 e b hb h2
  · by_cases e : j = k
    · subst e; rw [upd_same] at hb; exact hfv b hb
    · rw [upd_ne _ _ e] at hb; exact hq.fr j hj b hb
  · have key : ∀ j, j < 4 → j ≠ k → ∀ b, sblk v' = some b → sblk (V j) ≠ some b := fun j hj e b hb h2 => by
      rcases hd with d | ⟨d, _⟩
      · exact hq.ds k j hk4 hj (Ne.symm e) b (d ▸ hb) h2
      · rw [d] at hb; injection hb with hb
        have := ((hq.sl j hj).lt h2).1; omega
    by_cases e : j = k
    · subst e
      rw [upd_same] at hb
      rw [upd_ne _ _ (Ne.symm hne)]
      exact key j' hj' (Ne.symm hne) b hb
    · rw [upd_ne _ _ e] at hb
      by_cases e' : j' = k
      · subst e'
        rw [upd_same]
        intro h2
        exact key j hj e b h2 hb
      · rw [upd_ne _ _ e']; exact hq.ds j j' hj hj' hne b hb
  · exact (hq.bl.trans (hm.below hq.bl.size fun b hb h2 => by have := hq.fr k hk4 b h2; omega)).setCell (p := ⟨w.heap.size, k, none⟩) (Nat.le_refl _) _
/-- The append of one more cell, as the walk meets it. -/
theorem PartI.app (hp : PartI w h x y l V i wx) {c : Int × Int} (hc : l[i]? = some c) {k : Nat} (hk : qd h x y c = k) {v v' : Value} (hV : V k = v) {L : Nat} (hL : (part h x y k (l.take i)).length = L) (hb : Below wx.heap.size wx wy) (hm : Mod (fun b => sblk v = some b) wy w1)
    (hs : Sl w1 CT 2 v' (L + 1) (flat (part h x y k (l.take i)) ++ flat [c])) (hd : sblk v' = sblk v ∨ sblk v' = some wy.heap.size ∧ wy.heap.size < w1.heap.size) :
    w1.cell? ⟨w.heap.size, k, none⟩ = some v ∧ w1.frozen? ⟨w.heap.size, k, none⟩ = false ∧ PartI w h x y l (upd V k v') (i + 1) (w1.setCell ⟨w.heap.size, k, none⟩ v') := by
  subst hV hL
  have hk4 : k < 4 := by rw [← hk]; exact qd_lt h x y c
  have hq := hp.below hb
  have hkb : sblk (V k) ≠ some w.heap.size := fun e => Nat.lt_irrefl _ (hq.fr k hk4 _ e)
  have hbl := hq.blk.mod hm hkb
  exact ⟨hbl.cellS (VC_get V hk4), hbl.frozen k, hp.step hc hk hb hm hs hd⟩
end
end Go.Proofs.Ytgdijlpkbbfedaa

namespace Go.Proofs.Ytgdijlpkbbfedaa
open Go.RowKit

/-- Sixteen numbers. -/
def gC (G : Nat → Int) : Array Value := #[.int .i64 (G 0), .int .i64 (G 1), .int .i64 (G 2), .int .i64 (G 3), .int .i64 (G 4), .int .i64 (G 5), .int .i64 (G 6), .int .i64 (G 7), .int .i64 (G 8), .int .i64 (G 9), .int .i64 (G 10), .int .i64 (G 11), .int .i64 (G 12), .int .i64 (G 13), .int .i64 (G 14), .int .i64 (G 15)]
def GridPost (w : World) (hb p : Nat) (R : ArR) (S : ArS) (A : Nat → Abs) (t : Nat) (b l bad : Int) (T : Tree) (e : Ending) (w' : World) : Prop :=
  ∃ G : Nat → Int, e = .returned (.agg (gC G)) ∧ (bad = 0 → ∀ y x, y < 4 → x < 4 → Has S A t (G (y * 4 + x)) (gT T y x)) ∧ Lp w' hb p R S A t b l bad ∧ StepH (fun b => b = hb) p R R w w'
def cellIx (k j : Nat) : Nat := (k / 2 * 2 + j / 2) * 4 + (k % 2 * 2 + j % 2)
theorem cellIx_lt {k j : Nat} (hk : k < 4) (hj : j < 4) : cellIx k j < 16 := by unfold cellIx; omega
theorem cellIx_inj {k j k' j' : Nat} (hk : k < 4) (hj : j < 4) (hk' : k' < 4) (hj' : j' < 4) (h : cellIx k j = cellIx k' j') : k = k' ∧ j = j' := by unfold cellIx at h; omega
theorem gC_get (G : Nat → Int) {i : Nat} (h : i < 16) : (gC G)[i]? = some (.int .i64 (G i)) := by
  have : i = 0 ∨ i = 1 ∨ i = 2 ∨ i = 3 ∨ i = 4 ∨ i = 5 ∨ i = 6 ∨ i = 7 ∨ i = 8 ∨ i = 9 ∨ i = 10 ∨ i = 11 ∨ i = 12 ∨ i = 13 ∨ i = 14 ∨ i = 15 := by omega
  rcases this with rfl | rfl | rfl | rfl | rfl | rfl | rfl | rfl | rfl | rfl | rfl | rfl | rfl | rfl | rfl | rfl <;> rfl
theorem gC_set (G : Nat → Int) {i : Nat} (h : i < 16) (x : Int) : (gC G).setIfInBounds i (.int .i64 x) = gC (upd G i x) := by
  have : i = 0 ∨ i = 1 ∨ i = 2 ∨ i = 3 ∨ i = 4 ∨ i = 5 ∨ i = 6 ∨ i = 7 ∨ i = 8 ∨ i = 9 ∨ i = 10 ∨ i = 11 ∨ i = 12 ∨ i = 13 ∨ i = 14 ∨ i = 15 := by omega
  rcases this with rfl | rfl | rfl | rfl | rfl | rfl | rfl | rfl | rfl | rfl | rfl | rfl | rfl | rfl | rfl | rfl <;> rfl
structure GridI (w : World) (hb p : Nat) (R : ArR) (S : ArS) (A : Nat → Abs) (t : Nat) (b l bad : Int) (T : Tree) (gb k j : Nat) (G : Nat → Int) (wx : World) : Prop where
  lp : Lp wx hb p R S A t b l bad
  g : Lc wx p R hb gb 105 (gC G)
  r : Lc wx p R hb w.heap.size 105 (gC fun _ => 0)
  st : StepN hb p R R w wx
  lo : w.heap.size < gb
  told : bad = 0 → ∀ k' j', k' < 4 → j' < 4 → k' < k ∨ k' = k ∧ j' < j → Has S A t (G (cellIx k' j')) ((T.kid k').kid j')
section
variable {w wx w1 : World} {hb p : Nat} {R : ArR} {S : ArS} {A : Nat → Abs} {t : Nat} {b l bad : Int} {T : Tree} {gb k j : Nat} {G : Nat → Int}
theorem GridI.step (h : GridI w hb p R S A t b l bad T gb k j G wx) (hp : Lp w1 hb p R S A t b l bad) (hs : StepH (fun b => b = hb) p R R wx w1) : GridI w hb p R S A t b l bad T gb k j G w1 :=
  ⟨hp, h.g.step hs, h.r.step hs, h.st.step hs, h.lo, h.told⟩
theorem GridI.put (h : GridI w hb p R S A t b l bad T gb k j G wx) (hk : k < 4) (hj : j < 4) {x : Int} (hx : bad = 0 → Has S A t x ((T.kid k).kid j)) : GridI w hb p R S A t b l bad T gb k (j + 1) (upd G (cellIx k j) x) (wx.setCell ⟨gb, cellIx k j, none⟩ (.int .i64 x)) := by
  have hlo := h.lo
  refine ⟨h.lp.lset h.g _ _, ?_, h.r.far (by omega) _ _, h.st.lset (by omega) _ _, h.lo, fun e k' j' hk' hj' hc => ?_⟩
  · rw [← gC_set G (cellIx_lt hk hj)]; exact h.g.set _ _
  · by_cases q : cellIx k' j' = cellIx k j
    · obtain ⟨rfl, rfl⟩ := cellIx_inj hk' hj' hk hj q
      rw [upd_same]; exact hx e
    · rw [upd_ne _ _ q]
      refine h.told e k' j' hk' hj' ?_
      rcases hc with hc | ⟨rfl, hc⟩
      · exact .inl hc
      · refine .inr ⟨rfl, ?_⟩
        rcases Nat.lt_or_ge j' j with q2 | q2
        · exact q2
        · exact absurd (by rw [show j' = j by omega]) q
theorem GridI.next (h : GridI w hb p R S A t b l bad T gb k 4 G wx) : GridI w hb p R S A t b l bad T gb (k + 1) 0 G wx :=
  ⟨h.lp, h.g, h.r, h.st, h.lo, fun e k' j' hk' hj' hc => h.told e k' j' hk' hj' (by omega)⟩
theorem GridI.all (h : GridI w hb p R S A t b l bad T gb 4 0 G wx) (e : bad = 0) (y x : Nat) (hy : y < 4) (hx : x < 4) : Has S A t (G (y * 4 + x)) (gT T y x) := by
  have := h.told e (y / 2 * 2 + x / 2) (y % 2 * 2 + x % 2) (by omega) (by omega) (by omega)
  rw [show cellIx (y / 2 * 2 + x / 2) (y % 2 * 2 + x % 2) = y * 4 + x by unfold cellIx; omega] at this
  exact this
end
theorem lc_fill {w : World} {p : Nat} {R : ArR} {hb z : Nat} {S : ArS} {A : Nat → Abs} {t : Nat} {b l bad : Int} {w0 : World} (G : Nat → Int) : ∀ (n : Nat), n ≤ 16 → ∀ {G0 : Nat → Int}, Lc w p R hb z 105 (gC G0) → Lp w hb p R S A t b l bad → StepN hb p R R w0 w → w0.heap.size ≤ z →
    ∃ w', w' = (List.range n).foldl (fun w i => w.setCell ⟨z, i, none⟩ (.int .i64 (G i))) w ∧ Lc w' p R hb z 105 (gC fun i => if i < n then G i else G0 i) ∧ Lp w' hb p R S A t b l bad ∧ StepN hb p R R w0 w'
  | 0, _, G0, h, hp, hs, _ => ⟨w, rfl, by simpa using h, hp, hs⟩
  | n + 1, hn, G0, h, hp, hs, hz => by
    obtain ⟨w', e, h1, h2, h3⟩ := lc_fill G n (by omega) h hp hs hz
    refine ⟨w'.setCell ⟨z, n, none⟩ (.int .i64 (G n)), by rw [List.range_succ, List.foldl_append, ← e]; rfl, ?_, h2.lset h1 _ _, h3.lset hz _ _⟩
    have := h1.set n (.int .i64 (G n))
    rw [gC_set _ (by omega)] at this
    have e2 : (upd (fun i => if i < n then G i else G0 i) n (G n)) = fun i => if i < n + 1 then G i else G0 i := by
      funext i
      unfold upd
      by_cases q : i = n
      · subst q; simp
      · simp [q, show i < n + 1 ↔ i < n by omega]
    rw [e2] at this
    exact this
theorem idxK (K : Nat → Int) {k : Nat} (hk : k < 4) (w : World) : (Instr.index 50 (.agg #[.int .i64 (K 0), .int .i64 (K 1), .int .i64 (K 2), .int .i64 (K 3)]) (.int .i64 (k : Int))).run Try.prog w = .ok (.int .i64 (K k)) w := by
  rw [idx4 _ _ _ _ k hk w]
  rcases (by omega : k = 0 ∨ k = 1 ∨ k = 2 ∨ k = 3) with rfl | rfl | rfl | rfl <;> rfl
set_option maxRecDepth 100000 in
set_option maxHeartbeats 6400000 in
theorem lgrid_any (w : World) (hb p : Nat) (R : ArR) (S : ArS) (A : Nat → Abs) (t : Nat) (b l bad : Int) (h : Lp w hb p R S A t b l bad)
    (id : Int) (T : Tree) (n : Nat) (hT : Pf (n + 2) T) (hq : bad = 0 → Has S A t id T) :
    Calls Try.prog 58 #[.pointer (some ⟨hb, 0, none⟩), .int .i64 id] w (GridPost w hb p R S A t b l bad T) := by
  have HT := Lib.hid hT
  have H0 : Hid (GridI w hb p R S A t b l bad T (w.heap.size + 1) 0 0 (fun _ => 0) ((w.alloc (.cells #[.int .i64 0, .int .i64 0, .int .i64 0, .int .i64 0, .int .i64 0, .int .i64 0, .int .i64 0, .int .i64 0, .int .i64 0, .int .i64 0, .int .i64 0, .int .i64 0, .int .i64 0, .int .i64 0, .int .i64 0, .int .i64 0] 105)).alloc (.cells #[.int .i64 0, .int .i64 0, .int .i64 0, .int .i64 0, .int .i64 0, .int .i64 0, .int .i64 0, .int .i64 0, .int .i64 0, .int .i64 0, .int .i64 0, .int .i64 0, .int .i64 0, .int .i64 0, .int .i64 0, .int .i64 0] 105))) := by
    have hr := Lc.new h 105 (gC fun _ => 0)
    have h1 := h.alloc (.cells (gC fun _ => 0) 105)
    have hg := Lc.new h1 105 (gC fun _ => 0)
    rw [World.size_alloc] at hg
    exact ⟨h1.alloc _, hg, hr.alloc _, ((StepN.refl hb p R w).alloc _).alloc _, Nat.lt_succ_self _, fun _ k' j' _ _ hc => by omega⟩
  have HK := Lib.hid (fun W (hW : Lp W hb p R S A t b l bad) => lkids_any W hb p R S A t b l bad hW id T (n + 1) hT hq)
  clear h hq hT
  go_enter Try.func58, Try.ntmps58
  go_wp2_with fail
  generalize World.alloc (World.alloc w _) _ = w2 at H0 ⊢
  generalize w.heap.size + 1 = gb at H0 ⊢
  (with_reducible refine (HK.out _ H0.out.lp).mono ?_)
  rintro e w3 ⟨k0, k1, k2, k3, rfl, hkh, hkz, hd3, hs3⟩
  obtain ⟨K, rfl, rfl, rfl, rfl⟩ := fn4 k0 k1 k2 k3
  have H3 := Lib.hid (H0.out.step hd3 hs3)
  have HKK : Hid (bad = 0 → ∀ k, k < 4 → Has S A t (K k) (T.kid k)) := fun e k hk => by
    obtain ⟨g0, g1, g2, g3⟩ := hkh e
    have : k = 0 ∨ k = 1 ∨ k = 2 ∨ k = 3 := by omega
    rcases this with rfl | rfl | rfl | rfl <;> assumption
  clear hkh hkz hd3 hs3 HK H0
  go_wp2_with fail
  go_loopw [13] (fun iv wx => ∃ (k : Nat) (G : Nat → Int), iv = .int .i64 k ∧ k ≤ 4 ∧ GridI w hb p R S A t b l bad T gb k 0 G wx) (fun iv _ => 4 - (intOf iv).toNat)
  case atStart => exact ⟨0, _, rfl, Nat.zero_le _, H3.out⟩
  case round =>
    obtain ⟨k, G, rfl, hk, hI⟩ := hrel
    have HI := Lib.hid hI
    clear hI
    by_cases hk4 : k < 4
    · have HKC := Lib.hid (lkids_any wr hb p R S A t b l bad HI.out.lp (K k) (T.kid k) n (HT.out.kid k) (fun e => HKK.out e k hk4))
      have hq := fun w => idxK K hk4 w
      have k4 : k = 0 ∨ k = 1 ∨ k = 2 ∨ k = 3 := by omega
      have HK4 := Lib.hid hk4
      obtain ⟨κ, hκ⟩ : ∃ κ, κ = k := ⟨_, rfl⟩
      have HKE := Lib.hid hκ
      rw [← hκ] at HI HK4
      have HKC : Hid (Calls Try.prog 76 #[.pointer (some ⟨hb, 0, none⟩), .int .i64 (K k)] wr (LKidsPost wr hb p R S A t b l bad (T.kid κ))) := by rw [hκ]; exact HKC.out
      clear hk hk4 hκ
      rcases k4 with rfl | rfl | rfl | rfl
      all_goals (
        (first | rw [show ((0 : Nat) : Int) = 0 from rfl] at hq ⊢ | rw [show ((1 : Nat) : Int) = 1 from rfl] at hq ⊢ | rw [show ((2 : Nat) : Int) = 2 from rfl] at hq ⊢ | rw [show ((3 : Nat) : Int) = 3 from rfl] at hq ⊢)
        go_wp2_with fail
        (with_reducible refine HKC.out.mono ?_)
        rintro e w4 ⟨j0, j1, j2, j3, rfl, hkh, hkz, hd4, hs4⟩
        obtain ⟨J, rfl, rfl, rfl, rfl⟩ := fn4 j0 j1 j2 j3
        have H4 := Lib.hid (HI.out.step hd4 hs4)
        have HJJ : Hid (bad = 0 → ∀ j, j < 4 → Has S A t (J j) ((T.kid κ).kid j)) := fun e j hj => by
          obtain ⟨g0, g1, g2, g3⟩ := hkh e
          have : j = 0 ∨ j = 1 ∨ j = 2 ∨ j = 3 := by omega
          rcases this with rfl | rfl | rfl | rfl <;> assumption
        clear hq hkh hkz hd4 hs4 HKC
        obtain ⟨wo, hwo⟩ : ∃ wo : World, wo = wr := ⟨_, rfl⟩
        generalize wr = wo at *
        go_wp2_with fail
        go_loopw [20] (fun jv wx => ∃ (j : Nat) (G : Nat → Int), jv = .int .i64 j ∧ j ≤ 4 ∧ GridI w hb p R S A t b l bad T gb κ j G wx) (fun jv _ => 4 - (intOf jv).toNat)
        case atStart => exact ⟨0, G, rfl, Nat.zero_le _, H4.out⟩
        case round =>
          obtain ⟨j, G2, rfl, hj, hI2⟩ := hrel
          have HI2 := Lib.hid hI2
          clear hI2
          by_cases hj4 : j < 4
          · have hq := fun w => idxK J hj4 w
            have HP := Lib.hid (HI2.out.put HK4.out hj4 (fun e => HJJ.out e j hj4))
            have hc := HI2.out.g.cell (gC_get G2 (cellIx_lt HK4.out hj4))
            have hf := HI2.out.g.frozen (cellIx κ j)
            have j4 : j = 0 ∨ j = 1 ∨ j = 2 ∨ j = 3 := by omega
            obtain ⟨ι, hι⟩ : ∃ ι, ι = j := ⟨_, rfl⟩
            rw [HKE.out] at hc hf
            rw [← hι] at HP
            have HJE := Lib.hid hι
            clear hj hj4 hι
            rcases j4 with rfl | rfl | rfl | rfl
            all_goals (
              (first | rw [show ((0 : Nat) : Int) = 0 from rfl] at hq ⊢ | rw [show ((1 : Nat) : Int) = 1 from rfl] at hq ⊢ | rw [show ((2 : Nat) : Int) = 2 from rfl] at hq ⊢ | rw [show ((3 : Nat) : Int) = 3 from rfl] at hq ⊢)
              simp only [cellIx, Nat.reduceDiv, Nat.reduceMod, Nat.reduceMul, Nat.reduceAdd] at hc hf
              go_wp2_with fail
              refine ⟨⟨ι + 1, upd G2 (cellIx κ ι) (J ι), ?_, ?_, ?_⟩, ?_⟩
              · rw [HJE.out]; rfl
              · rw [HJE.out]; decide
              · have h := HP.out
                rw [HJE.out, HKE.out] at h ⊢
                exact h
              · simp [intOf])
          · obtain rfl : j = 4 := by omega
            have HN := Lib.hid HI2.out.next
            go_wp2_with fail
            refine ⟨⟨κ + 1, G2, ?_, ?_, HN.out⟩, ?_⟩
            · rw [HKE.out]; rfl
            · rw [HKE.out]; decide
            · simp [intOf])
    · obtain rfl : k = 4 := by omega
      have g0 : wr.cell? ⟨gb, 0, none⟩ = some (.int .i64 (G 0)) := HI.out.g.cell (gC_get G (by decide))
      have r0 : wr.cell? ⟨w.heap.size, 0, none⟩ = some (.int .i64 0) := HI.out.r.cell (gC_get _ (by decide))
      have f0 := HI.out.r.frozen 0
      have g1 : wr.cell? ⟨gb, 1, none⟩ = some (.int .i64 (G 1)) := HI.out.g.cell (gC_get G (by decide))
      have r1 : wr.cell? ⟨w.heap.size, 1, none⟩ = some (.int .i64 0) := HI.out.r.cell (gC_get _ (by decide))
      have f1 := HI.out.r.frozen 1
      have g2 : wr.cell? ⟨gb, 2, none⟩ = some (.int .i64 (G 2)) := HI.out.g.cell (gC_get G (by decide))
      have r2 : wr.cell? ⟨w.heap.size, 2, none⟩ = some (.int .i64 0) := HI.out.r.cell (gC_get _ (by decide))
      have f2 := HI.out.r.frozen 2
      have g3 : wr.cell? ⟨gb, 3, none⟩ = some (.int .i64 (G 3)) := HI.out.g.cell (gC_get G (by decide))
      have r3 : wr.cell? ⟨w.heap.size, 3, none⟩ = some (.int .i64 0) := HI.out.r.cell (gC_get _ (by decide))
      have f3 := HI.out.r.frozen 3
      have g4 : wr.cell? ⟨gb, 4, none⟩ = some (.int .i64 (G 4)) := HI.out.g.cell (gC_get G (by decide))
      have r4 : wr.cell? ⟨w.heap.size, 4, none⟩ = some (.int .i64 0) := HI.out.r.cell (gC_get _ (by decide))
      have f4 := HI.out.r.frozen 4
      have g5 : wr.cell? ⟨gb, 5, none⟩ = some (.int .i64 (G 5)) := HI.out.g.cell (gC_get G (by decide))
      have r5 : wr.cell? ⟨w.heap.size, 5, none⟩ = some (.int .i64 0) := HI.out.r.cell (gC_get _ (by decide))
      have f5 := HI.out.r.frozen 5
      have g6 : wr.cell? ⟨gb, 6, none⟩ = some (.int .i64 (G 6)) := HI.out.g.cell (gC_get G (by decide))
      have r6 : wr.cell? ⟨w.heap.size, 6, none⟩ = some (.int .i64 0) := HI.out.r.cell (gC_get _ (by decide))
      have f6 := HI.out.r.frozen 6
      have g7 : wr.cell? ⟨gb, 7, none⟩ = some (.int .i64 (G 7)) := HI.out.g.cell (gC_get G (by decide))
      have r7 : wr.cell? ⟨w.heap.size, 7, none⟩ = some (.int .i64 0) := HI.out.r.cell (gC_get _ (by decide))
      have f7 := HI.out.r.frozen 7
      have g8 : wr.cell? ⟨gb, 8, none⟩ = some (.int .i64 (G 8)) := HI.out.g.cell (gC_get G (by decide))
      have r8 : wr.cell? ⟨w.heap.size, 8, none⟩ = some (.int .i64 0) := HI.out.r.cell (gC_get _ (by decide))
      have f8 := HI.out.r.frozen 8
      have g9 : wr.cell? ⟨gb, 9, none⟩ = some (.int .i64 (G 9)) := HI.out.g.cell (gC_get G (by decide))
      have r9 : wr.cell? ⟨w.heap.size, 9, none⟩ = some (.int .i64 0) := HI.out.r.cell (gC_get _ (by decide))
      have f9 := HI.out.r.frozen 9
      have g10 : wr.cell? ⟨gb, 10, none⟩ = some (.int .i64 (G 10)) := HI.out.g.cell (gC_get G (by decide))
      have r10 : wr.cell? ⟨w.heap.size, 10, none⟩ = some (.int .i64 0) := HI.out.r.cell (gC_get _ (by decide))
      have f10 := HI.out.r.frozen 10
      have g11 : wr.cell? ⟨gb, 11, none⟩ = some (.int .i64 (G 11)) := HI.out.g.cell (gC_get G (by decide))
      have r11 : wr.cell? ⟨w.heap.size, 11, none⟩ = some (.int .i64 0) := HI.out.r.cell (gC_get _ (by decide))
      have f11 := HI.out.r.frozen 11
      have g12 : wr.cell? ⟨gb, 12, none⟩ = some (.int .i64 (G 12)) := HI.out.g.cell (gC_get G (by decide))
      have r12 : wr.cell? ⟨w.heap.size, 12, none⟩ = some (.int .i64 0) := HI.out.r.cell (gC_get _ (by decide))
      have f12 := HI.out.r.frozen 12
      have g13 : wr.cell? ⟨gb, 13, none⟩ = some (.int .i64 (G 13)) := HI.out.g.cell (gC_get G (by decide))
      have r13 : wr.cell? ⟨w.heap.size, 13, none⟩ = some (.int .i64 0) := HI.out.r.cell (gC_get _ (by decide))
      have f13 := HI.out.r.frozen 13
      have g14 : wr.cell? ⟨gb, 14, none⟩ = some (.int .i64 (G 14)) := HI.out.g.cell (gC_get G (by decide))
      have r14 : wr.cell? ⟨w.heap.size, 14, none⟩ = some (.int .i64 0) := HI.out.r.cell (gC_get _ (by decide))
      have f14 := HI.out.r.frozen 14
      have g15 : wr.cell? ⟨gb, 15, none⟩ = some (.int .i64 (G 15)) := HI.out.g.cell (gC_get G (by decide))
      have r15 : wr.cell? ⟨w.heap.size, 15, none⟩ = some (.int .i64 0) := HI.out.r.cell (gC_get _ (by decide))
      have f15 := HI.out.r.frozen 15
      obtain ⟨wf, hwf, hF⟩ := lc_fill (w0 := w) G 16 (by decide) HI.out.r HI.out.lp HI.out.st (Nat.le_refl _)
      have HF := Lib.hid hF
      have HWF := Lib.hid hwf
      clear hF hwf hk hk4
      go_wp2_with fail
      clear g0 r0 f0 g1 r1 f1 g2 r2 f2 g3 r3 f3 g4 r4 f4 g5 r5 f5 g6 r6 f6 g7 r7 f7 g8 r8 f8 g9 r9 f9 g10 r10 f10 g11 r11 f11 g12 r12 f12 g13 r13 f13 g14 r14 f14 g15 r15 f15
      generalize hw : World.setCell _ _ _ = w7
      obtain rfl : w7 = wf := by rw [← hw, HWF.out]; rfl
      clear hw HWF
      have s0 : w7.cell? ⟨w.heap.size, 0, none⟩ = some (.int .i64 (G 0)) := HF.out.1.cell (gC_get _ (by decide))
      have s1 : w7.cell? ⟨w.heap.size, 1, none⟩ = some (.int .i64 (G 1)) := HF.out.1.cell (gC_get _ (by decide))
      have s2 : w7.cell? ⟨w.heap.size, 2, none⟩ = some (.int .i64 (G 2)) := HF.out.1.cell (gC_get _ (by decide))
      have s3 : w7.cell? ⟨w.heap.size, 3, none⟩ = some (.int .i64 (G 3)) := HF.out.1.cell (gC_get _ (by decide))
      have s4 : w7.cell? ⟨w.heap.size, 4, none⟩ = some (.int .i64 (G 4)) := HF.out.1.cell (gC_get _ (by decide))
      have s5 : w7.cell? ⟨w.heap.size, 5, none⟩ = some (.int .i64 (G 5)) := HF.out.1.cell (gC_get _ (by decide))
      have s6 : w7.cell? ⟨w.heap.size, 6, none⟩ = some (.int .i64 (G 6)) := HF.out.1.cell (gC_get _ (by decide))
      have s7 : w7.cell? ⟨w.heap.size, 7, none⟩ = some (.int .i64 (G 7)) := HF.out.1.cell (gC_get _ (by decide))
      have s8 : w7.cell? ⟨w.heap.size, 8, none⟩ = some (.int .i64 (G 8)) := HF.out.1.cell (gC_get _ (by decide))
      have s9 : w7.cell? ⟨w.heap.size, 9, none⟩ = some (.int .i64 (G 9)) := HF.out.1.cell (gC_get _ (by decide))
      have s10 : w7.cell? ⟨w.heap.size, 10, none⟩ = some (.int .i64 (G 10)) := HF.out.1.cell (gC_get _ (by decide))
      have s11 : w7.cell? ⟨w.heap.size, 11, none⟩ = some (.int .i64 (G 11)) := HF.out.1.cell (gC_get _ (by decide))
      have s12 : w7.cell? ⟨w.heap.size, 12, none⟩ = some (.int .i64 (G 12)) := HF.out.1.cell (gC_get _ (by decide))
      have s13 : w7.cell? ⟨w.heap.size, 13, none⟩ = some (.int .i64 (G 13)) := HF.out.1.cell (gC_get _ (by decide))
      have s14 : w7.cell? ⟨w.heap.size, 14, none⟩ = some (.int .i64 (G 14)) := HF.out.1.cell (gC_get _ (by decide))
      have s15 : w7.cell? ⟨w.heap.size, 15, none⟩ = some (.int .i64 (G 15)) := HF.out.1.cell (gC_get _ (by decide))
      exact bodyPost_ret (v := .agg (gC G)) (by simp [results, Try.results58, go_sem, gC, s0, s1, s2, s3, s4, s5, s6, s7, s8, s9, s10, s11, s12, s13, s14, s15]) rfl ⟨G, rfl, fun e y x hy hx => HI.out.all e y x hy hx, HF.out.2.1, HF.out.2.2.fin⟩
end Go.Proofs.Ytgdijlpkbbfedaa
