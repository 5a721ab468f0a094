/- quad: the four parts of a list of cells, in plain words and in memory. · quad: four squares made one behind the other. · quad: build. · quad: From. · lifelodgekeep: begun, as quad's laws need it. · quad: plain laws on roots that are made: how many things there are, that the same root has the same number. -/
import Derived.Deep.DeepCutAuto
import Derived.Deep.QuietTactic
import Derived.BigQuiet
import Derived.Test.YtdbhddkkcchmmaaZ8
import Derived.Test.YtdbhddkkcchmmaaZ5
import Derived.Test.YtdbhddkkcchmmaaZ6
import Derived.Test.YtdbhddkkcchmmaaZ7
import Derived.Test.YtdbhddkkcchmmaaZ4

namespace Go.Proofs.Ytdbhddkkcchmmaa
open Go.RowKit

def qd (h x y : Int) (c : Int × Int) : Nat := (if x + h ≤ c.1 then 1 else 0) + (if y + h ≤ c.2 then 2 else 0)
def gx (h x : Int) (k : Nat) : Int := if k = 1 ∨ k = 3 then x + h else x
def gy (h y : Int) (k : Nat) : Int := if k = 2 ∨ k = 3 then y + h else y
theorem qd_lt (h x y : Int) (c : Int × Int) : qd h x y c < 4 := by unfold qd; split <;> split <;> omega
def part (h x y : Int) (k : Nat) (l : List (Int × Int)) : List (Int × Int) := l.filter fun c => decide (qd h x y c = k)
theorem part_snoc (h x y : Int) (k : Nat) (l : List (Int × Int)) (c : Int × Int) : part h x y k (l ++ [c]) = if qd h x y c = k then part h x y k l ++ [c] else part h x y k l := by
  unfold part
  rw [List.filter_append]
  by_cases e : qd h x y c = k
  · rw [if_pos e]; simp [e]
  · rw [if_neg e]; simp [e]
theorem part_len (h x y : Int) (k : Nat) (l : List (Int × Int)) : (part h x y k l).length ≤ l.length := List.length_filter_le _ _
theorem part_mem {h x y : Int} {k : Nat} {l : List (Int × Int)} {c : Int × Int} : c ∈ part h x y k l ↔ c ∈ l ∧ qd h x y c = k := by
  unfold part; rw [List.mem_filter, decide_eq_true_eq]
theorem qd_in {n : Nat} {x y a b : Int} {k : Nat} (hb : inB (n + 1) x y a b) : qd (2 ^ n) x y (a, b) = k ↔ k < 4 ∧ inB n (gx (2 ^ n) x k) (gy (2 ^ n) y k) a b := by
  have hp := pow_pos2 n
  unfold inB at hb ⊢
  rw [Int.pow_succ] at hb
  unfold qd gx gy
  generalize (2 : Int) ^ n = h at *
  constructor
  · intro e
    subst e
    by_cases h1 : x + h ≤ a <;> by_cases h2 : y + h ≤ b <;> simp [h1, h2] <;> omega
  · rintro ⟨hk, e⟩
    rcases (by omega : k = 0 ∨ k = 1 ∨ k = 2 ∨ k = 3) with rfl | rfl | rfl | rfl
    · simp at e; rw [if_neg (by omega), if_neg (by omega)]
    · simp at e; rw [if_pos (by omega), if_neg (by omega)]
    · simp at e; rw [if_neg (by omega), if_pos (by omega)]
    · simp at e; rw [if_pos (by omega), if_pos (by omega)]
theorem sub_in {n : Nat} {x y a b : Int} {k : Nat} (hk : k < 4) (hb : inB n (gx (2 ^ n) x k) (gy (2 ^ n) y k) a b) : inB (n + 1) x y a b := by
  rw [inB.up]
  rcases (by omega : k = 0 ∨ k = 1 ∨ k = 2 ∨ k = 3) with rfl | rfl | rfl | rfl
  · exact .inl hb
  · exact .inr (.inl hb)
  · exact .inr (.inr (.inl hb))
  · exact .inr (.inr (.inr hb))
theorem tree_part {n : Nat} {x y : Int} {l : List (Int × Int)} {k : Nat} (hk : k < 4) : treeOf (setOfL (part (2 ^ n) x y k l)) n (gx (2 ^ n) x k) (gy (2 ^ n) y k) = treeOf (setOfL l) n (gx (2 ^ n) x k) (gy (2 ^ n) y k) :=
  treeOf_congr fun a b hb => by
    unfold setOfL
    rw [decide_eq_decide, part_mem]
    exact ⟨fun h => h.1, fun h => ⟨h, (qd_in (sub_in hk hb)).2 ⟨hk, hb⟩⟩⟩
theorem part_in {n : Nat} {x y : Int} {l : List (Int × Int)} {k : Nat} (hin : ∀ c ∈ l, inB (n + 1) x y c.1 c.2) : ∀ c ∈ part (2 ^ n) x y k l, inB n (gx (2 ^ n) x k) (gy (2 ^ n) y k) c.1 c.2 := fun c hc => by
  obtain ⟨h1, h2⟩ := part_mem.1 hc
  exact ((qd_in (hin c h1)).1 h2).2

/-- The square of a part. -/
def partT (l : List (Int × Int)) (n : Nat) (x y : Int) (k : Nat) : Tree := treeOf (setOfL l) n (gx (2 ^ n) x k) (gy (2 ^ n) y k)
theorem partT_all (l : List (Int × Int)) (n : Nat) (x y : Int) : treeOf (setOfL l) (n + 1) x y = .node (partT l n x y 0) (partT l n x y 1) (partT l n x y 2) (partT l n x y 3) := by
  simp [treeOf, partT, gx, gy]
theorem partT_lvl (l : List (Int × Int)) (n : Nat) (x y : Int) (k : Nat) : (partT l n x y k).lvl = n := treeOf_lvl _ _ _ _
theorem gx_bd {n : Nat} {x : Int} (k : Nat) (h : -35184372088832 ≤ x ∧ x + 2 ^ (n + 1) ≤ 35184372088832) : -35184372088832 ≤ gx (2 ^ n) x k ∧ gx (2 ^ n) x k + 2 ^ n ≤ 35184372088832 := by
  have := pow_pos2 n
  rw [Int.pow_succ] at h
  unfold gx; split <;> omega
theorem gy_bd {n : Nat} {y : Int} (k : Nat) (h : -35184372088832 ≤ y ∧ y + 2 ^ (n + 1) ≤ 35184372088832) : -35184372088832 ≤ gy (2 ^ n) y k ∧ gy (2 ^ n) y k + 2 ^ n ≤ 35184372088832 := by
  have := pow_pos2 n
  rw [Int.pow_succ] at h
  unfold gy; split <;> omega
def VC (V : Nat → Value) : Array Value := #[V 0, V 1, V 2, V 3]
theorem VC_set (V : Nat → Value) {k : Nat} (hk : k < 4) (v : Value) : (VC V).setIfInBounds k v = VC (upd V k v) := by
  rcases (by omega : k = 0 ∨ k = 1 ∨ k = 2 ∨ k = 3) with rfl | rfl | rfl | rfl <;> rfl
theorem VC_get (V : Nat → Value) {k : Nat} (hk : k < 4) : (VC V)[k]? = some (V k) := by
  rcases (by omega : k = 0 ∨ k = 1 ∨ k = 2 ∨ k = 3) with rfl | rfl | rfl | rfl <;> rfl
abbrev CT := 35
/-- The parts of the first i cells, as they lie. -/
structure PartI (w : World) (h x y : Int) (l : List (Int × Int)) (V : Nat → Value) (i : Nat) (wx : World) : Prop where
  blk : Blk wx w.heap.size 96 (VC V)
  sl : ∀ k, k < 4 → Sl wx CT 2 (V k) (part h x y k (l.take i)).length (flat (part h x y k (l.take i)))
  fr : ∀ k, k < 4 → ∀ b, sblk (V k) = some b → w.heap.size < b
  ds : ∀ k k', k < 4 → k' < 4 → k ≠ k' → ∀ b, sblk (V k) = some b → sblk (V k') ≠ some b
  bl : Below w.heap.size w wx
section
variable {w wx wy w1 : World} {h x y : Int} {l : List (Int × Int)} {V : Nat → Value} {i : Nat}
theorem PartI.start (w : World) (h x y : Int) (l : List (Int × Int)) : PartI w h x y l (fun _ => nilV) 0 (w.alloc (.cells #[nilV, nilV, nilV, nilV] 96)) :=
  ⟨Blk.new w _ _, fun k hk => by rw [show part h x y k (l.take 0) = [] by simp [part]]; exact Sl.nil _ _ _, fun k _ b hb => by simp [nilV, sblk] at hb, fun k k' _ _ _ b hb => by simp [nilV, sblk] at hb, (Below.refl _ _).alloc (Nat.le_refl _) _⟩
theorem PartI.below (hp : PartI w h x y l V i wx) (hb : Below wx.heap.size wx wy) : PartI w h x y l V i wy :=
  ⟨hp.blk.mod (Mod.of_below_all hb) (fun h => h), fun k hk => (hp.sl k hk).mod (Mod.of_below_all hb) (fun _ _ h => h), hp.fr, hp.ds, hp.bl.trans (hb.mono hp.bl.size)⟩
/-- One more cell. -/
theorem PartI.step (hp : PartI w h x y l V i wx) {c : Int × Int} (hc : l[i]? = some c) {k : Nat} (hk : qd h x y c = k) {v' : Value} (hb : Below wx.heap.size wx wy) (hm : Mod (fun b => sblk (V k) = some b) wy w1)
    (hs : Sl w1 CT 2 v' ((part h x y k (l.take i)).length + 1) (flat (part h x y k (l.take i)) ++ flat [c])) (hd : sblk v' = sblk (V k) ∨ sblk v' = some wy.heap.size ∧ wy.heap.size < w1.heap.size) :
    PartI w h x y l (upd V k v') (i + 1) (w1.setCell ⟨w.heap.size, k, none⟩ v') := by
  have hk4 : k < 4 := by rw [← hk]; exact qd_lt h x y c
  have hq := hp.below hb
  have ht : l.take (i + 1) = l.take i ++ [c] := by
    obtain ⟨hl, rfl⟩ := List.getElem?_eq_some_iff.1 hc
    exact List.take_succ_eq_append_getElem hl
  have hpb : w.heap.size < wy.heap.size := hq.blk.lt
  have hfv : ∀ b, sblk v' = some b → w.heap.size < b := fun b e => by
    rcases hd with d | ⟨d, _⟩
    · exact hq.fr k hk4 b (d ▸ e)
    · rw [d] at e; injection e with e; omega
  have hkb : sblk (V k) ≠ some w.heap.size := fun e => Nat.lt_irrefl _ (hq.fr k hk4 _ e)
  refine ⟨?_, fun j hj => ?_, fun j hj b hb => ?_, fun j j' hj hj' hne b hb => ?_, ?_⟩
  · rw [← VC_set V hk4]
    exact (hq.blk.mod hm hkb).set k _
  · rw [ht, part_snoc]
    by_cases e : j = k
    · subst e
      rw [upd_same, if_pos hk, flat_append, List.length_append]
      exact hs.far (p := ⟨w.heap.size, j, none⟩) (fun e => Nat.lt_irrefl _ (hfv _ e)) _
    · rw [upd_ne _ _ e, if_neg (fun q : qd h x y c = j => e (q.symm.trans hk))]
      refine ((hq.sl j hj).mod hm fun b hb h2 => ?_).far (p := ⟨w.heap.size, k, none⟩) (fun h => Nat.lt_irrefl _ (hq.fr j hj _ h)) _
      exact hq.ds j k hj hk4 e b hb h2
  · by_cases e : j = k
    · subst e; rw [upd_same] at hb; exact hfv b hb
    · rw [upd_ne _ _ e] at hb; exact hq.fr j hj b hb
  · have key : ∀ j, j < 4 → j ≠ k → ∀ b, sblk v' = some b → sblk (V j) ≠ some b := fun j hj e b hb h2 => by
      rcases hd with d | ⟨d, _⟩
      · exact hq.ds k j hk4 hj (Ne.symm e) b (d ▸ hb) h2
      · rw [d] at hb; injection hb with hb
        have := ((hq.sl j hj).lt h2).1; omega
    by_cases e : j = k
    · subst e
      rw [upd_same] at hb
      rw [upd_ne _ _ (Ne.symm hne)]
      exact key j' hj' (Ne.symm hne) b hb
    · rw [upd_ne _ _ e] at hb
      by_cases e' : j' = k
      · subst e'
        rw [upd_same]
        intro h2
        exact key j hj e b h2 hb
      · rw [upd_ne _ _ e']; exact hq.ds j j' hj hj' hne b hb
  · exact (hq.bl.trans (hm.below hq.bl.size fun b hb h2 => by have := hq.fr k hk4 b h2; omega)).setCell (p := ⟨w.heap.size, k, none⟩) (Nat.le_refl _) _
/-- The append of one more cell, as the walk meets it. -/
theorem PartI.app (hp : PartI w h x y l V i wx) {c : Int × Int} (hc : l[i]? = some c) {k : Nat} (hk : qd h x y c = k) {v v' : Value} (hV : V k = v) {L : Nat} (hL : (part h x y k (l.take i)).length = L) (hb : Below wx.heap.size wx wy) (hm : Mod (fun b => sblk v = some b) wy w1)
    (hs : Sl w1 CT 2 v' (L + 1) (flat (part h x y k (l.take i)) ++ flat [c])) (hd : sblk v' = sblk v ∨ sblk v' = some wy.heap.size ∧ wy.heap.size < w1.heap.size) :
    w1.cell? ⟨w.heap.size, k, none⟩ = some v ∧ w1.frozen? ⟨w.heap.size, k, none⟩ = false ∧ PartI w h x y l (upd V k v') (i + 1) (w1.setCell ⟨w.heap.size, k, none⟩ v') := by
  subst hV hL
  have hk4 : k < 4 := by rw [← hk]; exact qd_lt h x y c
  have hq := hp.below hb
  have hkb : sblk (V k) ≠ some w.heap.size := fun e => Nat.lt_irrefl _ (hq.fr k hk4 _ e)
  have hbl := hq.blk.mod hm hkb
  exact ⟨hbl.cellS (VC_get V hk4), hbl.frozen k, hp.step hc hk hb hm hs hd⟩
end
end Go.Proofs.Ytdbhddkkcchmmaa

namespace Go.Proofs.Ytdbhddkkcchmmaa
open Go.RowKit

def QC (Q : Nat → Int) : Array Value := #[.int .i64 (Q 0), .int .i64 (Q 1), .int .i64 (Q 2), .int .i64 (Q 3)]
theorem QC_set (Q : Nat → Int) {k : Nat} (hk : k < 4) (r : Int) : (QC Q).setIfInBounds k (.int .i64 r) = QC (upd Q k r) := by
  rcases (by omega : k = 0 ∨ k = 1 ∨ k = 2 ∨ k = 3) with rfl | rfl | rfl | rfl <;> rfl
theorem QC_get (Q : Nat → Int) {k : Nat} (hk : k < 4) : (QC Q)[k]? = some (.int .i64 (Q k)) := by
  rcases (by omega : k = 0 ∨ k = 1 ∨ k = 2 ∨ k = 3) with rfl | rfl | rfl | rfl <;> rfl
/-- The squares of the first j trees. -/
def upto (T : Nat → Tree) : Nat → List Thing
  | 0 => []
  | j + 1 => upto T j ++ nodes (T j)
theorem upto_four (T : Nat → Tree) : ∀ x ∈ upto T 4, x ∈ nodes (.node (T 0) (T 1) (T 2) (T 3)) := fun x hx => by
  simp only [upto, List.nil_append, List.mem_append] at hx
  rw [mem_nodes]
  rcases hx with ((h | h) | h) | h
  · exact .inr (.inl h)
  · exact .inr (.inr (.inl h))
  · exact .inr (.inr (.inr (.inl h)))
  · exact .inr (.inr (.inr (.inr h)))
/-- j of four squares are made; their numbers lie in block qb. -/
structure QuadI (w1 : World) (hb qb : Nat) (ty : TypeId) (more : List Value) (p : Nat) (R : ArR) (S : ArS) (A : Nat → Abs) (t : Nat) (bad : Int) (T : Nat → Tree) (j : Nat) (Q : Nat → Int) (S' : ArS) (A' : Nat → Abs) (R' : ArR) (bad' : Int) (wx : World) : Prop where
  made : Made t (upto T j) S A bad S' A' bad'
  has : bad' = 0 → ∀ k, k < j → Has S' A' t (Q k) (T k)
  hd : Hd wx hb ty more p R' S' A' t bad'
  q : Blk wx qb 51 (QC Q)
  st : StepH (fun b => b = hb ∨ b = qb) p R R' w1 wx
section
variable {w w0 w1 w2 wx : World} {hb qb : Nat} {ty : TypeId} {more : List Value} {p : Nat} {R R' R2 : ArR} {S S' S2 : ArS} {A A' A2 : Nat → Abs} {t : Nat} {bad bad' bad2 : Int} {T : Nat → Tree} {j : Nat} {Q : Nat → Int}
theorem QuadI.start (h : Hd w1 hb ty more p R S A t bad) (hq : Blk w1 qb 51 #[.int .i64 0, .int .i64 0, .int .i64 0, .int .i64 0]) (T : Nat → Tree) : QuadI w1 hb qb ty more p R S A t bad T 0 (fun _ => 0) S A R bad w1 :=
  ⟨Made.refl h.rel t bad, fun _ _k hk => absurd hk (Nat.not_lt_zero _), h, hq, StepH.refl _ p R w1⟩
theorem QuadI.step (h : QuadI w1 hb qb ty more p R S A t bad T j Q S' A' R' bad' wx) (hlt : qb < w1.heap.size) (hno : ¬ Own p R qb) (hne : qb ≠ hb) (hj : j < 4) {r : Int} (hm : Made t (nodes (T j)) S' A' bad' S2 A2 bad2) (hh : bad2 = 0 → Has S2 A2 t r (T j))
    (hd : Hd w2 hb ty more p R2 S2 A2 t bad2) (hst : StepH (fun b => b = hb) p R' R2 wx w2) :
    w2.cell? ⟨qb, j, none⟩ = some (.int .i64 (Q j)) ∧ w2.frozen? ⟨qb, j, none⟩ = false ∧ QuadI w1 hb qb ty more p R S A t bad T (j + 1) (upd Q j r) S2 A2 R2 bad2 (w2.setCell ⟨qb, j, none⟩ (.int .i64 r)) := by
  have hno' : ¬ Own p R' qb := h.st.not hlt hno
  have hq2 : Blk w2 qb 51 (QC Q) := h.q.mod hst.mod fun ho => by
    rcases ho with ho | ho
    · exact hno' ho
    · exact hne ho
  have hno2 : ¬ Own p R2 qb := hst.not h.q.lt hno'
  refine ⟨hq2.cellS (QC_get Q hj), hq2.frozen j, ⟨h.made.trans hm, fun e k hk => ?_, hd.keep (T := fun b => b = qb) ((Mod.refl (fun b => b = qb) w2).set (p := ⟨qb, j, none⟩) (fun _ => rfl) _) (fun b hb e => by subst e; exact hno2 hb) (Ne.symm hne), ?_, ?_⟩⟩
  · by_cases e2 : k = j
    · subst e2; rw [upd_same]; exact hh e
    · rw [upd_ne _ _ e2]
      exact (h.has ((hm.ok e).1) k (by omega)).st hd.ht hm.st
  · rw [← QC_set Q hj]; exact hq2.set j _
  · exact (h.st.trans (hst.wide fun b _ e => .inl e)).set (q := ⟨qb, j, none⟩) (fun _ => .inr rfl) _
/-- The parts lie still. -/
theorem QuadI.parts {h x y : Int} {l : List (Int × Int)} {V : Nat → Value} {m : Nat} (H : Hd w hb ty more p R S A t bad) (hP : PartI w h x y l V m w0) (hl : l.length = m) (ob : Obj) (hI : QuadI (w0.alloc ob) hb w0.heap.size ty more p R S A t bad T j Q S' A' R' bad' wx) {k : Nat} (hk : k < 4) :
    wx.cell? ⟨w.heap.size, k, none⟩ = some (V k) ∧ Rd wx wx.heap.size 2 (V k) (part h x y k l).length (flat (part h x y k l)) := by
  have h1 := H.blk.lt
  have h2 := hP.blk.lt
  have hT : l.take m = l := by rw [← hl]; exact List.take_length
  have key : ∀ b, w.heap.size ≤ b → b < w0.heap.size → wx.heap[b]? = (w0.alloc ob).heap[b]? := fun b g1 g2 =>
    hI.st.mod.block b (by simp; omega) fun ho => by
      rcases ho with ho | ho | ho
      · have := H.arm.own_lt ho; omega
      · omega
      · omega
  constructor
  · have := (hP.blk.alloc ob).cellS (VC_get V hk)
    exact (World.cell?_of_block (a := ⟨w.heap.size, k, none⟩) (key w.heap.size (Nat.le_refl _) h2)).trans this
  · have hs := (hP.sl k hk)
    rw [hT] at hs
    exact ((hs.alloc ob).of_blk fun b hb => by
      have := hP.fr k hk b hb
      exact key b (by omega) (hs.lt hb).1).rd
theorem QuadI.quad_end {h x y : Int} {l : List (Int × Int)} {V : Nat → Value} {m : Nat} {ob : Obj} (hI : QuadI (w0.alloc ob) hb w0.heap.size ty more p R S A t bad T j Q S' A' R' bad' wx) (_H : Hd w hb ty more p R S A t bad) (hP : PartI w h x y l V m w0) (hst : StepH (fun b => b = hb) p R' R2 wx w2) : StepH (fun b => b = hb) p R R2 w w2 := by
  have h2 := hP.blk.lt
  have s1 : StepH (fun b => b = hb ∨ b = w0.heap.size) p R R w (w0.alloc ob) := StepH.of_below (hP.bl.alloc hP.bl.size ob)
  exact ((s1.trans hI.st).trans (hst.wide fun b _ e => .inl e)).wide fun b hb e => by
    rcases e with e | e
    · exact e
    · omega
end
end Go.Proofs.Ytdbhddkkcchmmaa

namespace Go.Proofs.Ytdbhddkkcchmmaa
open Go.RowKit

def BuildOk (n : Nat) : Prop := ∀ (w : World) (hb : Nat) (ty : TypeId) (more : List Value) (p : Nat) (R : ArR) (S : ArS) (A : Nat → Abs) (t : Nat) (bad : Int), Hd w hb ty more p R S A t bad →
  ∀ (v : Value) (m : Nat) (l : List (Int × Int)), Rd w w.heap.size 2 v m (flat l) → m ≤ 100000 → ∀ x y : Int, -35184372088832 ≤ x → x + 2 ^ n ≤ 35184372088832 → -35184372088832 ≤ y → y + 2 ^ n ≤ 35184372088832 → (∀ c ∈ l, inB n x y c.1 c.2) →
  Calls Try.prog 31 #[.pointer (some ⟨hb, 0, none⟩), v, .int .i64 x, .int .i64 y, .int .i64 n] w (HandPost w hb ty more p R S A t bad (treeOf (setOfL l) n x y))

set_option maxRecDepth 100000 in
set_option maxHeartbeats 3200000 in
/-- No cells. -/
theorem build_none (n : Nat) (hn : n ≤ 44) (w : World) (hb : Nat) (ty : TypeId) (more : List Value) (p : Nat) (R : ArR) (S : ArS) (A : Nat → Abs) (t : Nat) (bad : Int) (h : Hd w hb ty more p R S A t bad) (q : Option Addr) (cap : Nat) (x y : Int) :
    Calls Try.prog 31 #[.pointer (some ⟨hb, 0, none⟩), .slice q 0 cap, .int .i64 x, .int .i64 y, .int .i64 n] w (HandPost w hb ty more p R S A t bad (emptyT n)) := by
  have HE := Lib.hid (hempty_any w hb ty more p R S A t bad h n hn)
  clear h
  go_enter Try.func31, Try.ntmps31
  go_wp2_with fail
  (with_reducible refine HE.out.mono ?_)
  rintro e w3 ⟨r, S2, A2, R2, bad2, rfl, hm, hh, hd, hst⟩
  go_wp2_with fail
  go_returns
  exact ⟨r, S2, A2, R2, bad2, rfl, hm, hh, hd, hst⟩

set_option maxRecDepth 100000 in
set_option maxHeartbeats 3200000 in
theorem build_zero : BuildOk 0 := by
  intro w hb ty more p R S A t bad h v m l hR hm x y hx1 hx2 hy1 hy2 hin
  obtain ⟨hl, _⟩ := hR.pairs
  obtain ⟨q, cap, rfl, hc1, hc2⟩ := hR.form
  by_cases h0 : m = 0
  · subst h0
    have : l = [] := List.eq_nil_of_length_eq_zero hl
    subst this
    rw [treeOf_none (P := setOfL []) (n := 0) (fun a b _ => by simp [setOfL])]
    exact build_none 0 (by decide) w hb ty more p R S A t bad h q cap x y
  · have hmem : setOfL l x y = true := by
      obtain ⟨c, hc⟩ : ∃ c, c ∈ l := by
        cases l with
        | nil => simp at hl; omega
        | cons c r => exact ⟨c, List.mem_cons_self ..⟩
      have h1 := hin c hc
      unfold inB at h1
      have e1 : c.1 = x := by simp at h1; omega
      have e2 : c.2 = y := by simp at h1; omega
      unfold setOfL
      rw [decide_eq_true_eq, ← e1, ← e2]; exact hc
    have hT : treeOf (setOfL l) 0 x y = .alive := by simp only [treeOf, hmem, if_true]
    rw [hT]
    have h0' : ((m : Int) == 0) = false := by simp; omega
    have H := Lib.hid h
    clear hR hin hl hmem hT h h0
    go_enter Try.func31, Try.ntmps31
    go_wp2_with fail
    go_returns
    exact ⟨1, S, A, R, bad, rfl, Made.refl H.out.rel t bad, fun _ => Has.alive, H.out, StepH.refl _ p R w⟩

set_option maxRecDepth 100000 in
set_option maxHeartbeats 3200000 in
theorem build_more (n : Nat) (hn : n + 1 ≤ 44) (ih : BuildOk n) : BuildOk (n + 1) := by
  intro w hb ty more p R S A t bad h v m l hR hm x y hx1 hx2 hy1 hy2 hin
  obtain ⟨hl, hat⟩ := hR.pairs
  obtain ⟨q, cap, rfl, hc1, hc2⟩ := hR.form
  by_cases h0 : m = 0
  · subst h0
    have : l = [] := List.eq_nil_of_length_eq_zero hl
    subst this
    rw [treeOf_none (P := setOfL []) (n := n + 1) (fun a b _ => by simp [setOfL])]
    exact build_none (n + 1) hn w hb ty more p R S A t bad h q cap x y
  · obtain ⟨b, off, cap', he, _, _, hb1, hcs⟩ := hat (by omega)
    injection he with he1 _ he3
    subst he1
    have h0' : ((m : Int) == 0) = false := by simp; omega
    have hn0 : ((n : Int) + 1 == 0) = false := by simp; omega
    have hp1 := pow_i64 (n := n) (by omega)
    have hp2 := pow_pos2 n
    have HX : Hid ((-35184372088832 ≤ x ∧ x + 2 ^ (n + 1) ≤ 35184372088832) ∧ -35184372088832 ≤ y ∧ y + 2 ^ (n + 1) ≤ 35184372088832) := ⟨⟨hx1, hx2⟩, hy1, hy2⟩
    rw [Int.pow_succ] at hx2 hy2
    have hx3 : x + 2 ^ n ≤ 35184372088832 := by omega
    have hy3 : y + 2 ^ n ≤ 35184372088832 := by omega
    have H := Lib.hid h
    have HCS := Lib.hid hcs
    have HL := Lib.hid hl
    have HIN := Lib.hid hin
    have HM := Lib.hid hm
    have HBL := Lib.hid hb1
    unfold maxLen at hc2
    clear h hcs hl hin hR hat he3 hb1 hx2 hy2
    rw [show ((n + 1 : Nat) : Int) = (n : Int) + 1 by omega]
    go_enter Try.func31, Try.ntmps31
    go_wp2_with fail
    have HP := Lib.hid (PartI.start w (2 ^ n) x y l)
    unfold nilV at HP
    generalize World.alloc _ _ = w2 at HP ⊢
    go_loopw [34] (fun iv wx => ∃ (i : Nat) (V : Nat → Value), iv = .int .i64 i ∧ i ≤ m ∧ PartI w (2 ^ n) x y l V i wx) (fun iv _ => m - (intOf iv).toNat)
    case atStart => exact ⟨0, _, rfl, Nat.zero_le _, HP.out⟩
    case round =>
      obtain ⟨i, V, rfl, hi, hP⟩ := hrel
      have HP := Lib.hid hP
      clear hP
      by_cases hin : i < m
      · obtain ⟨c3, c4⟩ := HCS.out i hin
        rw [← HP.out.bl.cell (p := ⟨b, off + i * 2, none⟩) HBL.out] at c3
        rw [← HP.out.bl.cell (p := ⟨b, off + i * 2 + 1, none⟩) HBL.out] at c4
        have hci : l[i]? = some l[i]! := by have := HL.out; rw [List.getElem!_eq_getElem?_getD, List.getElem?_eq_getElem (by omega)]; rfl
        generalize hck : l[i]! = c at c3 c4 hci
        obtain ⟨cx, cy⟩ := c
        have HCI := Lib.hid hci
        have HIN := Lib.hid hin
        have hlt : (i : Int) < m := by omega
        have hwi := wrap_nat' i (by unfold maxLen; omega)
        have hlen : Hid (∀ k, (part (2 ^ n) x y k (l.take i)).length ≤ 100000) := fun k => by
          have h1 := part_len (2 ^ n) x y k (l.take i)
          have h2 := List.length_take_le i l
          have h3 := HM.out
          have h4 := HIN.out
          omega
        clear hck hci hin hi
        generalize hkk : qd (2 ^ n) x y (cx, cy) = k
        have HK := Lib.hid hkk
        have hk4 : k < 4 := by rw [← hkk]; exact qd_lt _ _ _ _
        have HK4 := Lib.hid hk4
        obtain ⟨vA, vcap, hV, hv1, hv2⟩ := (HP.out.sl k hk4).form
        have HV := Lib.hid hV
        have HSL := Lib.hid (HP.out.sl k hk4)
        rw [hV] at HSL
        have d0 := (HP.out.below ((Below.refl _ _).alloc (Nat.le_refl _) (.cells #[.int .i64 cx, .int .i64 cy] 35))).blk.cellS (VC_get V hk4)
        rw [hV] at d0
        generalize hLN : (part (2 ^ n) x y k (l.take i)).length = L at *
        have HLN := Lib.hid hLN
        unfold qd at hkk
        clear hV hLN hk4
        by_cases hx4 : x + 2 ^ n ≤ cx <;> by_cases hy4 : y + 2 ^ n ≤ cy
        all_goals (first
          | (have e : k = 3 := by rw [← hkk]; simp [hx4, hy4]
             subst e)
          | (have e : k = 1 := by rw [← hkk]; simp [hx4, hy4]
             subst e)
          | (have e : k = 2 := by rw [← hkk]; simp [hx4, hy4]
             subst e)
          | (have e : k = 0 := by rw [← hkk]; simp [hx4, hy4]
             subst e))
        all_goals (clear hkk; go_wp2_with fail)
        all_goals (
          obtain ⟨w2, hw2⟩ : ∃ w2, wr.alloc (.cells #[.int .i64 cx, .int .i64 cy] 35) = w2 := ⟨_, rfl⟩
          rw [hw2] at d0 ⊢
          have HBW : Hid (Below wr.heap.size wr w2) := by subst hw2; exact (Below.refl _ _).alloc (Nat.le_refl _) _
          have e0 : w2.cell? ⟨wr.heap.size, 0, none⟩ = some (.int .i64 cx) := by subst hw2; exact (Blk.new wr _ _).cellS rfl
          have e1 : w2.cell? ⟨wr.heap.size, 1, none⟩ = some (.int .i64 cy) := by subst hw2; exact (Blk.new wr _ _).cellS rfl
          have HSL2 := Lib.hid (HSL.out.below HBW.out)
          clear hw2 c3 c4 hx4 hy4
          have d1 := (HP.out.below (HBW.out.alloc HBW.out.size (.cells #[.int .i64 cx, .int .i64 cy] 35))).blk.cellS (VC_get V HK4.out)
          rw [HV.out] at d1
          have HX := Lib.hid (Rd.fresh w2 35 #[.int .i64 cx, .int .i64 cy] 2 1 rfl (by unfold maxLen; omega))
          have HLE : Hid (L ≤ 100000) := Nat.le_trans (Nat.le_of_eq HLN.out.symm) (hlen.out _)
          go_region_law
            ((refine step_append_sl _ rfl (.tmp 57) (.tmp 59) 22 rfl 35 (.agg #[.int .i64 0, .int .i64 0]) 2 16 Try.underlying22 Try.info35 rfl (by decide) rfl (by exact HSL2.out.alloc _) rfl (by exact HX.out) (by intro u hu; simp at hu; rcases hu with rfl | rfl <;> rfl) (by have := HLE.out; omega) (by have := HLE.out; unfold maxLen; omega) ?_; intro v' w6 hs6 hm6 hd6; obtain ⟨g0, g1, g2⟩ := HP.out.app HCI.out HK.out HV.out HLN.out ((HBW.out.alloc HBW.out.size _).drew) hm6 hs6 hd6; obtain ⟨A', cap', rfl, q1, q2⟩ := hs6.form))
          all_goals (
            have HG := Lib.hid g2
            clear g2 g0 g1 hm6 hd6 hs6 d0 d1 e0 e1
            go_wp2_with fail
            go_roundw
            case rel => exact ⟨i + 1, _, by go_num, HIN.out, HG.out⟩
            case measure => simp [intOf]; have := HIN.out; omega))
      · have hi5 : i = m := by omega
        subst hi5
        clear hin hi
        go_wp2_with fail
        obtain ⟨w0, rfl⟩ : ∃ w0 : World, w0 = wr := ⟨_, rfl⟩
        have HQS := Lib.hid (QuadI.start ((H.out.below HP.out.bl).alloc (.cells #[.int .i64 0, .int .i64 0, .int .i64 0, .int .i64 0] 51)) (Blk.new w0 51 #[.int .i64 0, .int .i64 0, .int .i64 0, .int .i64 0]) (partT l n x y))
        have HLT : Hid (w0.heap.size < (w0.alloc (.cells #[.int .i64 0, .int .i64 0, .int .i64 0, .int .i64 0] 51)).heap.size) := (Blk.new w0 51 #[.int .i64 0, .int .i64 0, .int .i64 0, .int .i64 0]).lt
        have HNO : Hid (¬ Own p R w0.heap.size) := fun ho => by have := (H.out.below HP.out.bl).arm.own_lt ho; omega
        have HNE : Hid (w0.heap.size ≠ hb) := by have := (H.out.below HP.out.bl).blk.lt; show w0.heap.size ≠ hb; omega
        go_loopw [63] (fun jv wx => ∃ (j : Nat) (Q : Nat → Int) (S' : ArS) (A' : Nat → Abs) (R' : ArR) (bad' : Int), jv = .int .i64 j ∧ j ≤ 4 ∧ QuadI (w0.alloc (.cells #[.int .i64 0, .int .i64 0, .int .i64 0, .int .i64 0] 51)) hb w0.heap.size ty more p R S A t bad (partT l n x y) j Q S' A' R' bad' wx) (fun jv _ => 4 - (intOf jv).toNat)
        case atStart => exact ⟨0, _, S, A, R, bad, rfl, Nat.zero_le _, HQS.out⟩
        case round =>
          obtain ⟨j, Q, S', A', R', bad', rfl, hj, hQ⟩ := hrel
          have HQ := Lib.hid hQ
          clear hQ
          by_cases hj4 : j < 4
          · have hpq := QuadI.parts H.out HP.out HL.out _ HQ.out hj4
            obtain ⟨d0, hrd⟩ := hpq
            obtain ⟨vA, vcap, hV, hv1, hv2⟩ := hrd.form
            rw [hV] at d0 hrd
            have hb4 := ih wr hb ty more p R' S' A' t bad' HQ.out.hd _ _ _ hrd (by have h1 := part_len (2 ^ n) x y j l; have h2 := HL.out; have h3 := HM.out; omega) (gx (2 ^ n) x j) (gy (2 ^ n) y j) (gx_bd j HX.out.1).1 (gx_bd j HX.out.1).2 (gy_bd j HX.out.2).1 (gy_bd j HX.out.2).2 (part_in HIN.out)
            rw [tree_part hj4] at hb4
            change Calls _ _ _ _ (HandPost wr hb ty more p R' S' A' t bad' (partT l n x y j)) at hb4
            have HB4 := Lib.hid hb4
            generalize (part (2 ^ n) x y j l).length = L at *
            have HJ4 := Lib.hid hj4
            clear hb4 hrd hV hj
            rcases (by omega : j = 0 ∨ j = 1 ∨ j = 2 ∨ j = 3) with rfl | rfl | rfl | rfl
            all_goals clear hj4
            · have HB5 : Hid (Calls Try.prog 31 #[.pointer (some ⟨hb, 0, none⟩), .slice vA L vcap, .int .i64 x, .int .i64 y, .int .i64 n] wr (HandPost wr hb ty more p R' S' A' t bad' (partT l n x y 0))) := HB4
              clear HB4
              go_wp2_with fail
              (with_reducible refine HB5.out.mono ?_)
              rintro e w3 ⟨r, S2, A2, R2, bad2, rfl, hm, hh, hd, hst⟩
              obtain ⟨g0, g1, g2⟩ := HQ.out.step HLT.out HNO.out HNE.out HJ4.out hm hh hd hst
              have HG := Lib.hid g2
              clear g2 hm hh hd hst HB5 d0
              go_wp2_with fail
              go_roundw
              case rel => exact ⟨1, _, S2, A2, R2, bad2, by go_num, by decide, HG.out⟩
              case measure => simp [intOf]
            · have HB5 : Hid (Calls Try.prog 31 #[.pointer (some ⟨hb, 0, none⟩), .slice vA L vcap, .int .i64 (x + 2 ^ n), .int .i64 y, .int .i64 n] wr (HandPost wr hb ty more p R' S' A' t bad' (partT l n x y 1))) := HB4
              clear HB4
              go_wp2_with fail
              (with_reducible refine HB5.out.mono ?_)
              rintro e w3 ⟨r, S2, A2, R2, bad2, rfl, hm, hh, hd, hst⟩
              obtain ⟨g0, g1, g2⟩ := HQ.out.step HLT.out HNO.out HNE.out HJ4.out hm hh hd hst
              have HG := Lib.hid g2
              clear g2 hm hh hd hst HB5 d0
              go_wp2_with fail
              go_roundw
              case rel => exact ⟨2, _, S2, A2, R2, bad2, by go_num, by decide, HG.out⟩
              case measure => simp [intOf]
            · have HB5 : Hid (Calls Try.prog 31 #[.pointer (some ⟨hb, 0, none⟩), .slice vA L vcap, .int .i64 x, .int .i64 (y + 2 ^ n), .int .i64 n] wr (HandPost wr hb ty more p R' S' A' t bad' (partT l n x y 2))) := HB4
              clear HB4
              go_wp2_with fail
              (with_reducible refine HB5.out.mono ?_)
              rintro e w3 ⟨r, S2, A2, R2, bad2, rfl, hm, hh, hd, hst⟩
              obtain ⟨g0, g1, g2⟩ := HQ.out.step HLT.out HNO.out HNE.out HJ4.out hm hh hd hst
              have HG := Lib.hid g2
              clear g2 hm hh hd hst HB5 d0
              go_wp2_with fail
              go_roundw
              case rel => exact ⟨3, _, S2, A2, R2, bad2, by go_num, by decide, HG.out⟩
              case measure => simp [intOf]
            · have HB5 : Hid (Calls Try.prog 31 #[.pointer (some ⟨hb, 0, none⟩), .slice vA L vcap, .int .i64 (x + 2 ^ n), .int .i64 (y + 2 ^ n), .int .i64 n] wr (HandPost wr hb ty more p R' S' A' t bad' (partT l n x y 3))) := HB4
              clear HB4
              go_wp2_with fail
              (with_reducible refine HB5.out.mono ?_)
              rintro e w3 ⟨r, S2, A2, R2, bad2, rfl, hm, hh, hd, hst⟩
              obtain ⟨g0, g1, g2⟩ := HQ.out.step HLT.out HNO.out HNE.out HJ4.out hm hh hd hst
              have HG := Lib.hid g2
              clear g2 hm hh hd hst HB5 d0
              go_wp2_with fail
              go_roundw
              case rel => exact ⟨4, _, S2, A2, R2, bad2, by go_num, by decide, HG.out⟩
              case measure => simp [intOf]
          · have hj5 : j = 4 := by omega
            subst hj5
            have q0 := HQ.out.q.cellS (QC_get Q (k := 0) (by decide))
            have q1 := HQ.out.q.cellS (QC_get Q (k := 1) (by decide))
            have q2 := HQ.out.q.cellS (QC_get Q (k := 2) (by decide))
            have q3 := HQ.out.q.cellS (QC_get Q (k := 3) (by decide))
            have HJ := Lib.hid (hjoin_any wr hb ty more p R' S' A' t bad' HQ.out.hd (Q 0) (Q 1) (Q 2) (Q 3) _ _ _ _ n (fun e => ⟨HQ.out.has e 0 (by decide), HQ.out.has e 1 (by decide), HQ.out.has e 2 (by decide), HQ.out.has e 3 (by decide)⟩) ⟨partT_lvl l n x y 0, partT_lvl l n x y 1, partT_lvl l n x y 2, partT_lvl l n x y 3⟩ (by omega))
            rw [← partT_all] at HJ
            clear hj hj4
            go_wp2_with fail
            (with_reducible refine HJ.out.mono ?_)
            rintro e w3 ⟨r, S2, A2, R2, bad2, rfl, hm, hh, hd, hst⟩
            have HM2 := Lib.hid (HQ.out.made.next hm (by rw [partT_all]; exact upto_four _))
            have HH := Lib.hid hh
            have HD := Lib.hid hd
            have HS2 : Hid (StepH (fun b => b = hb) p R R2 w w3) := HQ.out.quad_end H.out HP.out hst
            clear hm hh hd hst q0 q1 q2 q3 HJ
            go_wp2_with fail
            go_returns
            exact ⟨r, S2, A2, R2, bad2, rfl, HM2.out, HH.out, HD.out, HS2.out⟩
theorem build_any (n : Nat) (hn : n ≤ 44) : BuildOk n := by
  induction n with
  | zero => exact build_zero
  | succ n ih => exact build_more n hn (ih (by omega))
end Go.Proofs.Ytdbhddkkcchmmaa

namespace Go.Proofs.Ytdbhddkkcchmmaa
open Go.RowKit

/-- All cells lie in the root of level k + 1. -/
def Reach2 (k : Nat) (l : List (Int × Int)) : Prop := ∀ c ∈ l, inB (k + 1) (-2 ^ k) (-2 ^ k) c.1 c.2
def leastK (l : List (Int × Int)) (k : Nat) : Prop := 1 ≤ k ∧ Reach2 k l ∧ ∀ j, 1 ≤ j → j < k → ¬ Reach2 j l
theorem leastK_unique {l l' : List (Int × Int)} {k k' : Nat} (h : leastK l k) (h' : leastK l' k') (hm : ∀ c, c ∈ l ↔ c ∈ l') : k = k' := by
  obtain ⟨h1, h2, h3⟩ := h
  obtain ⟨g1, g2, g3⟩ := h'
  rcases Nat.lt_trichotomy k k' with q | q | q
  · exact absurd (fun c hc => h2 c ((hm c).2 hc)) (g3 k h1 q)
  · exact q
  · exact absurd (fun c hc => g2 c ((hm c).1 hc)) (h3 k' g1 q)
/-- The root of a set of cells, of level k + 1. -/
def rootT (P : Int → Int → Bool) (k : Nat) : Tree := treeOf P (k + 1) (-2 ^ k) (-2 ^ k)
theorem rootT_lvl (P : Int → Int → Bool) (k : Nat) : (rootT P k).lvl = (k : Int) + 1 := by unfold rootT; rw [treeOf_lvl]; omega
theorem setOfL_same {l l' : List (Int × Int)} (h : ∀ c, c ∈ l ↔ c ∈ l') : setOfL l = setOfL l' := by
  funext a b; unfold setOfL; rw [decide_eq_decide]; exact h (a, b)
theorem reach_box {l : List (Int × Int)} {x0 y0 x1 y1 : Int} (h : IsBox l x0 y0 x1 y1) (k : Nat) : Reach2 k l ↔ -2 ^ k ≤ x0 ∧ -2 ^ k ≤ y0 ∧ x1 < 2 ^ k ∧ y1 < 2 ^ k := by
  obtain ⟨⟨⟨a, ha, ha2⟩, h1⟩, ⟨⟨b, hb, hb2⟩, h2⟩, ⟨⟨c, hc, hc2⟩, h3⟩, ⟨d, hd, hd2⟩, h4⟩ := h
  unfold Reach2 inB
  rw [Int.pow_succ]
  constructor
  · intro hr
    have := hr a ha
    have := hr b hb
    have := hr c hc
    have := hr d hd
    omega
  · intro hr e he
    have := h1 e he
    have := h2 e he
    have := h3 e he
    have := h4 e he
    omega
theorem reach_big {l : List (Int × Int)} (hok : ∀ c ∈ l, okC c) : Reach2 40 l := fun c hc => by
  have := hok c hc
  unfold okC okZ at this
  unfold inB
  rw [show (2 : Int) ^ 40 = 1099511627776 by decide, show (2 : Int) ^ (40 + 1) = 2199023255552 by decide]
  omega
/-- An arena between calls. -/
structure Ar (w : World) (p : Nat) (R : ArR) (S : ArS) (A : Nat → Abs) : Prop where
  arm : ArM w p R S
  rel : Rel S A
  add : ∀ u, u < 64 → ((S.added u).length : Int) ≤ S.count u
theorem Ar.hd {w : World} {p : Nat} {R : ArR} {S : ArS} {A : Nat → Abs} (h : Ar w p R S A) {t : Nat} (ht : t < 64) (ty : TypeId) (more : List Value) : Hd (w.alloc (.cells (handC p t 0 more) ty)) w.heap.size ty more p R S A t 0 :=
  ⟨h.arm.alloc _, Blk.new w ty _, fun ho => by have := h.arm.own_lt ho; omega, h.rel, h.add, ht⟩
theorem Ar.below {w w' : World} {p : Nat} {R : ArR} {S : ArS} {A : Nat → Abs} (h : Ar w p R S A) (hb : Below w.heap.size w w') : Ar w' p R S A := ⟨h.arm.below hb, h.rel, h.add⟩
theorem Hd.ar {w : World} {hb : Nat} {ty : TypeId} {more : List Value} {p : Nat} {R : ArR} {S : ArS} {A : Nat → Abs} {t : Nat} {bad : Int} (h : Hd w hb ty more p R S A t bad) : Ar w p R S A := ⟨h.arm, h.rel, h.add⟩
theorem below_drewN {B : Nat} {w w' : World} (h : Below B w w') (n : Nat) : Below B w (w'.drewN n) := ⟨h.os, h.tape, h.output, h.size, h.block⟩
def NoX : Nat → Prop := fun _ => False
theorem StepH.low {p : Nat} {R R' : ArR} {w w' : World} {B : Nat} (h : StepH NoX p R R' w w') (hB : B ≤ w.heap.size) (hf : ∀ b, Own p R b → B ≤ b) : Below B w w' ∧ ∀ b, Own p R' b → B ≤ b :=
  ⟨h.mod.below hB fun b hb ho => by
    rcases ho with ho | ho
    · have := hf b ho; omega
    · exact ho, fun b hb => by
    rcases h.own b hb with h1 | h1
    · exact hf b h1
    · omega⟩
/-- What a function of quad that gives a root does. -/
def RootPost (w : World) (p : Nat) (R : ArR) (S : ArS) (A : Nat → Abs) (t : Nat) (T : Tree) (e : Ending) (w' : World) : Prop :=
  ∃ (r : Int) (S' : ArS) (A' : Nat → Abs) (R' : ArR) (bad' : Int), e = .returned (.tuple #[.int .i64 (if bad' = 0 then r else 0), .int .i64 bad']) ∧ Made t (nodes T) S A 0 S' A' bad' ∧ (bad' = 0 → Has S' A' t r T) ∧ Ar w' p R' S' A' ∧ StepH NoX p R R' w w'
theorem root_post {w w1 w2 w3 : World} {p : Nat} {R R1 : ArR} {S S1 : ArS} {A A1 : Nat → Abs} {t : Nat} {T : Tree} {hb : Nat} {ty : TypeId} {more : List Value} {r bad : Int} (hb1 : Below w.heap.size w w1) (hn : w.heap.size ≤ hb) (hm : Made t (nodes T) S A 0 S1 A1 bad) (hh : bad = 0 → Has S1 A1 t r T) (hd : Hd w2 hb ty more p R1 S1 A1 t bad) (hs : StepH (fun b => b = hb) p R R1 w1 w2) (hb3 : Below w2.heap.size w2 w3) :
    RootPost w p R S A t T (.returned (.tuple #[.int .i64 (if bad = 0 then r else 0), .int .i64 bad])) w3 :=
  ⟨r, S1, A1, R1, bad, rfl, hm, hh, (hd.below hb3).ar, (((StepH.of_below hb1).trans hs).wide fun b hlt e => by omega).below hb3⟩

def FromPost (w : World) (p : Nat) (R : ArR) (S : ArS) (A : Nat → Abs) (t : Nat) (l : List (Int × Int)) (e : Ending) (w' : World) : Prop :=
  ∃ k, leastK l k ∧ k ≤ 40 ∧ RootPost w p R S A t (rootT (setOfL l) k) e w'

set_option maxRecDepth 100000 in
set_option maxHeartbeats 3200000 in
theorem from_any (w : World) (p : Nat) (R : ArR) (S : ArS) (A : Nat → Abs) (h : Ar w p R S A) (t : Nat) (ht : t < 64) (B m : Nat) (v : Value) (l : List (Int × Int)) (hR : Rd w B 2 v m (flat l)) (hB : B ≤ w.heap.size) (hm : m ≤ 4096) (hok : ∀ c ∈ l, okC c) :
    Calls Try.prog 11 #[.pointer (some ⟨p, 0, none⟩), .int .i64 t, v] w (FromPost w p R S A t l) := by
  have H := Lib.hid h
  have HT := Lib.hid (tidy_ok w B m v l hR hB hm hok)
  have HOK := Lib.hid (reach_big hok)
  have HT4 := Lib.hid ht
  obtain ⟨q, cap, rfl, hc1, hc2⟩ := hR.form
  have HLM : Hid (l.length ≤ 4096) := by have := hR.pairs.1; show l.length ≤ 4096; omega
  clear h hR hok ht hB
  go_enter Try.func11, Try.ntmps11
  go_wp2_with fail
  (with_reducible refine HT.out.mono ?_)
  rintro e w1 ⟨q1, m1, s, rfl, hts, hs1, hf1, hb1⟩
  have HTS := Lib.hid hts
  have HS1 := Lib.hid hs1
  have HB1 := Lib.hid hb1
  have HML : Hid (m1 ≤ 4096) := by
    have h1 := tid_length hts
    have h2 := HLM.out
    have h3 := hs1.1
    rw [flat_length] at h3
    show m1 ≤ 4096; omega
  have HSL : Hid (setOfL s = setOfL l) := setOfL_same hts.2
  have HSM : Hid (s.length = m1) := by have h3 := hs1.1; rw [flat_length] at h3; show s.length = m1; omega
  clear hts hs1 hf1 hb1 HT
  go_wp2_with fail
  by_cases h0 : m1 = 0
  · subst h0
    have hs0 : s = [] := List.eq_nil_of_length_eq_zero HSM.out
    subst hs0
    have HST : Hid (emptyT 2 = rootT (setOfL l) 1) := by
      show emptyT 2 = rootT (setOfL l) 1
      rw [← HSL.out]; unfold rootT; rw [treeOf_none (fun a b _ => by simp [setOfL])]
    have HLK : Hid (leastK l 1) := ⟨Nat.le_refl _, fun c hc => by have := congrFun (congrFun HSL.out c.1) c.2; simp [setOfL] at this; exact absurd hc this, fun j h1 h2 => by omega⟩
    (with_reducible refine (bounds_none w1 q1 0).mono ?_)
    rintro e w2 ⟨rfl, hb2⟩
    have HB3 := Lib.hid ((HB1.out.trans (hb2.mono HB1.out.size)).alloc (Nat.le_trans HB1.out.size hb2.size) (.cells #[.int .i64 0, .int .i64 0, .int .i64 0, .int .i64 0] 53))
    have hd4 := (H.out.below HB3.out).hd HT4.out 58 []
    rw [World.size_alloc] at hd4
    change Hd (World.alloc _ (.cells #[.pointer (some ⟨p, 0, none⟩), .int .i64 t, .int .i64 0] 58)) _ _ _ _ _ _ _ _ _ at hd4
    have HD := Lib.hid hd4
    have HB4 := Lib.hid (HB3.out.alloc HB3.out.size (.cells #[.pointer (some ⟨p, 0, none⟩), .int .i64 t, .int .i64 0] 58))
    have HHB : Hid (w.heap.size ≤ w2.heap.size + 1) := by have h1 := HB1.out.size; have h2 := hb2.size; show w.heap.size ≤ w2.heap.size + 1; omega
    have HH : Hid (∀ W : World, Calls Try.prog 29 #[.int .i64 2] W fun e w' => e = .returned (.int .i64 2) ∧ W = w') := fun W => half_any W 1 (by decide)
    clear hb2 HB1 HS1 HB3 hd4
    go_wp2_with fail
    generalize World.alloc (World.alloc w2 _) _ = w4 at HD HB4 ⊢
    generalize w2.heap.size + 1 = hb at HD HHB ⊢
    (with_reducible refine (HH.out _).mono ?_)
    rintro e wq ⟨rfl, rfl⟩
    go_wp2_with fail
    (with_reducible refine (HH.out _).mono ?_)
    rintro e wq ⟨rfl, rfl⟩
    go_wp2_with fail
    have HBD : Hid (Calls Try.prog 31 #[.pointer (some ⟨hb, 0, none⟩), .slice q1 0 0, .int .i64 (-2), .int .i64 (-2), .int .i64 2] w4 (HandPost w4 hb 58 [] p R S A t 0 (rootT (setOfL l) 1))) := by
      rw [← HST.out]; exact build_none 2 (by decide) w4 hb 58 [] p R S A t 0 HD.out q1 0 (-2) (-2)
    (with_reducible refine HBD.out.mono ?_)
    rintro e w5 ⟨r, S2, A2, R2, bad2, rfl, hm, hh, hd, hst⟩
    have c2 := hd.c2
    have HF := Lib.hid (fun w6 (hb6 : Below w5.heap.size w5 w6) => root_post (t := t) HB4.out HHB.out hm hh hd hst hb6)
    clear hm hh hd hst HBD HD
    go_wp2_with fail
    (with_reducible refine (done_any w5 hb bad2 c2 r).mono ?_)
    rintro e w6 ⟨rfl, hb6⟩
    have HF2 := Lib.hid (HF.out w6 hb6)
    clear hb6 HF c2
    generalize (if bad2 = 0 then r else 0) = rr at HF2 ⊢
    go_wp2_with fail
    go_returns
    exact ⟨1, HLK.out, by decide, HF2.out⟩
  · (with_reducible refine (bounds_any w1 m1 _ s HS1.out.rd (by omega)).mono ?_)
    rintro e w2 ⟨x0, y0, x1, y1, rfl, hbox, hb2⟩
    have HBOX := Lib.hid hbox
    have HB2 := Lib.hid (HB1.out.trans (hb2.mono HB1.out.size))
    have HRD2 := Lib.hid (HS1.out.rd.below hb2)
    have hz2 := hb2.size
    clear hbox hb2 h0
    have HK0 := Lib.hid ((Blk.new w2 53 #[.int .i64 x0, .int .i64 y0, .int .i64 x1, .int .i64 y1]))
    have HB3 := Lib.hid (HB2.out.alloc HB2.out.size (.cells #[.int .i64 x0, .int .i64 y0, .int .i64 x1, .int .i64 y1] 53))
    have HRD3 : Hid (Rd (w2.alloc (.cells #[.int .i64 x0, .int .i64 y0, .int .i64 x1, .int .i64 y1] 53)) w2.heap.size 2 (.slice q1 m1 m1) m1 (flat s)) := (HRD2.out.more (by exact hz2)).below ((Below.refl _ _).alloc (Nat.le_refl _) _)
    clear HRD2 HB2
    go_wp2_with fail
    generalize World.alloc w2 _ = w3 at HK0 HB3 HRD3 ⊢
    have b0 := HK0.out.cellS (i := 0) rfl
    have b1 := HK0.out.cellS (i := 1) rfl
    have b2 := HK0.out.cellS (i := 2) rfl
    have b3 := HK0.out.cellS (i := 3) rfl
    go_loopw [10] (fun lv wx => ∃ k : Nat, lv = .int .i64 ((k : Int) + 1) ∧ 1 ≤ k ∧ k ≤ 40 ∧ (∀ j, 1 ≤ j → j < k → ¬ Reach2 j s) ∧ ∃ d, wx = w3.drewN d) (fun lv _ => 41 - (intOf lv).toNat)
    case atStart => exact ⟨1, rfl, Nat.le_refl _, by decide, fun j h1 h2 => by omega, 0, rfl⟩
    case round =>
      obtain ⟨k, rfl, hk1, hk2, hk3, hwx⟩ := hrel
      have d0 : wr.cell? ⟨w2.heap.size, 0, none⟩ = some (.int .i64 x0) := by obtain ⟨d, rfl⟩ := hwx; exact b0
      have d1 : wr.cell? ⟨w2.heap.size, 1, none⟩ = some (.int .i64 y0) := by obtain ⟨d, rfl⟩ := hwx; exact b1
      have d2 : wr.cell? ⟨w2.heap.size, 2, none⟩ = some (.int .i64 x1) := by obtain ⟨d, rfl⟩ := hwx; exact b2
      have d3 : wr.cell? ⟨w2.heap.size, 3, none⟩ = some (.int .i64 y1) := by obtain ⟨d, rfl⟩ := hwx; exact b3
      have HWX := Lib.hid hwx
      clear hwx b0 b1 b2 b3
      have HK := Lib.hid hk1
      have HK3 := Lib.hid hk3
      have hp1 := pow_i64 (n := k) (by omega)
      have hp2 := pow_pos2 k
      have HRE := Lib.hid (reach_box HBOX.out k)
      clear hk3 hk1
      by_cases hre : Reach2 k s
      · have hr := HRE.out.1 hre
        obtain ⟨r1, r2, r3, r4⟩ := hr
        have HR := Lib.hid hre
        clear hre
        have hna : decide (x0 < -2 ^ k) = false := decide_eq_false (by omega)
        have hnb : decide (y0 < -2 ^ k) = false := decide_eq_false (by omega)
        have hnc : decide (2 ^ k ≤ x1) = false := decide_eq_false (by omega)
        have hnd : decide (2 ^ k ≤ y1) = false := decide_eq_false (by omega)
        go_wp2_with fail
        go_quiet ((go_at_call 29; exact Calls.quiet_of_same ((half_any _ k (by omega)).mono fun _ _ h => ⟨h.1, h.2.symm⟩)))
        have HB4 : Hid (Below w.heap.size w (wr.drewN nq)) := by obtain ⟨d, hd⟩ := HWX.out; show Below w.heap.size w (wr.drewN nq); rw [hd]; exact below_drewN (below_drewN HB3.out d) nq
        have HRD4 : Hid (Rd (wr.drewN nq) w2.heap.size 2 (.slice q1 m1 m1) m1 (flat s)) := by obtain ⟨d, hd⟩ := HWX.out; show Rd (wr.drewN nq) w2.heap.size 2 (.slice q1 m1 m1) m1 (flat s); rw [hd]; exact HRD3.out
        have HSZ : Hid (w2.heap.size ≤ (wr.drewN nq).heap.size) := by obtain ⟨d, hd⟩ := HWX.out; show w2.heap.size ≤ (wr.drewN nq).heap.size; rw [hd]; exact Nat.le_of_lt HK0.out.lt
        clear hna hnb hnc hnd r1 r2 r3 r4 d0 d1 d2 d3 HWX
        generalize wr.drewN nq = w4 at HB4 HRD4 HSZ ⊢
        have hd4 := (H.out.below HB4.out).hd HT4.out 58 []
        change Hd (World.alloc _ (.cells #[.pointer (some ⟨p, 0, none⟩), .int .i64 t, .int .i64 0] 58)) _ _ _ _ _ _ _ _ _ at hd4
        have HD := Lib.hid hd4
        have HB5 := Lib.hid (HB4.out.alloc HB4.out.size (.cells #[.pointer (some ⟨p, 0, none⟩), .int .i64 t, .int .i64 0] 58))
        have HHB : Hid (w.heap.size ≤ w4.heap.size) := HB4.out.size
        have HRD5 : Hid (Rd (w4.alloc (.cells #[.pointer (some ⟨p, 0, none⟩), .int .i64 t, .int .i64 0] 58)) (w4.alloc (.cells #[.pointer (some ⟨p, 0, none⟩), .int .i64 t, .int .i64 0] 58)).heap.size 2 (.slice q1 m1 m1) m1 (flat s)) :=
          ((HRD4.out.more HSZ.out).below ((Below.refl _ _).alloc (Nat.le_refl _) _)).more (by rw [World.size_alloc]; omega)
        clear hd4 HB4 HRD4 HSZ
        go_wp2_with fail
        generalize World.alloc w4 _ = w5 at HD HB5 HRD5 ⊢
        generalize w4.heap.size = hb at HD HHB ⊢
        (with_reducible refine (half_any w5 k (by omega)).mono ?_)
        rintro e wq ⟨rfl, rfl⟩
        go_wp2_with fail
        (with_reducible refine (half_any w5 k (by omega)).mono ?_)
        rintro e wq ⟨rfl, rfl⟩
        go_wp2_with fail
        have hp40 : (2 : Int) ^ k ≤ 2 ^ 40 := by
          have h1 := Nat.pow_le_pow_right (n := 2) (by decide) hk2
          have h2 : ((2 ^ k : Nat) : Int) ≤ ((2 ^ 40 : Nat) : Int) := Int.ofNat_le.2 h1
          simpa using h2
        have hbd := build_any (k + 1) (by omega) w5 hb 58 [] p R S A t 0 HD.out _ m1 s HRD5.out (by have := HML.out; omega) (-2 ^ k) (-2 ^ k) (by rw [show (2 : Int) ^ 40 = 1099511627776 by decide] at hp40; omega) (by rw [Int.pow_succ]; rw [show (2 : Int) ^ 40 = 1099511627776 by decide] at hp40; omega) (by rw [show (2 : Int) ^ 40 = 1099511627776 by decide] at hp40; omega) (by rw [Int.pow_succ]; rw [show (2 : Int) ^ 40 = 1099511627776 by decide] at hp40; omega) HR.out
        rw [HSL.out, show ((k + 1 : Nat) : Int) = (k : Int) + 1 by omega] at hbd
        have HBD : Hid (Calls Try.prog 31 #[.pointer (some ⟨hb, 0, none⟩), .slice q1 m1 m1, .int .i64 (-2 ^ k), .int .i64 (-2 ^ k), .int .i64 ((k : Int) + 1)] w5 (HandPost w5 hb 58 [] p R S A t 0 (rootT (setOfL l) k))) := hbd
        clear hbd hp40
        (with_reducible refine HBD.out.mono ?_)
        rintro e w6 ⟨r, S2, A2, R2, bad2, rfl, hm, hh, hd, hst⟩
        have c2 := hd.c2
        have HF := Lib.hid (fun w7 (hb7 : Below w6.heap.size w6 w7) => root_post (t := t) HB5.out HHB.out hm hh hd hst hb7)
        clear hm hh hd hst HBD HD
        go_wp2_with fail
        (with_reducible refine (done_any w6 hb bad2 c2 r).mono ?_)
        rintro e w7 ⟨rfl, hb7⟩
        have HF2 := Lib.hid (HF.out w7 hb7)
        have HLK : Hid (leastK l k) := ⟨HK.out, fun c hc => HR.out c ((tid_mem HTS.out c).2 hc), fun j h1 h2 h3 => HK3.out j h1 h2 fun c hc => h3 c ((tid_mem HTS.out c).1 hc)⟩
        clear hb7 HF c2
        generalize (if bad2 = 0 then r else 0) = rr at HF2 ⊢
        go_wp2_with fail
        go_returns
        exact ⟨k, HLK.out, hk2, HF2.out⟩
      · have HNR := Lib.hid hre
        have hr : x0 < -2 ^ k ∨ y0 < -2 ^ k ∨ 2 ^ k ≤ x1 ∨ 2 ^ k ≤ y1 := by
          have : ¬ (-2 ^ k ≤ x0 ∧ -2 ^ k ≤ y0 ∧ x1 < 2 ^ k ∧ y1 < 2 ^ k) := fun h => hre (HRE.out.2 h)
          omega
        have hk40 : Hid (k + 1 ≤ 40) := by
          show k + 1 ≤ 40
          rcases Nat.lt_or_ge k 40 with h | h
          · exact h
          · have : k = 40 := by omega
            subst this
            exact absurd (fun c hc => HOK.out c ((tid_mem HTS.out c).1 hc)) hre
        have HKN : Hid (∀ j, 1 ≤ j → j < k + 1 → ¬ Reach2 j s) := fun j h1 h2 => by
          rcases Nat.lt_succ_iff_lt_or_eq.1 h2 with h | h
          · exact HK3.out j h1 h
          · rw [h]; exact HNR.out
        have hlv : IntKind.i64.wrap ((k : Int) + 1 + 1) = (k : Int) + 1 + 1 := by rw [IntKind.wrap_i64]; omega
        clear hre
        by_cases ha : x0 < -2 ^ k
        · have hta : decide (x0 < -2 ^ k) = true := decide_eq_true ha
          clear hr
          go_wp2_with fail
          go_quiet ((go_at_call 29; exact Calls.quiet_of_same ((half_any _ k (by omega)).mono fun _ _ h => ⟨h.1, h.2.symm⟩)))
          go_wp2_with fail
          go_roundw
          case rel =>
            obtain ⟨d, hd⟩ := HWX.out
            exact ⟨k + 1, by go_num, by omega, hk40.out, HKN.out, d + nq, by rw [hd, World.drewN_drewN]⟩
          case measure => simp [intOf]; have := hk40.out; omega

        · have hna : decide (x0 < -2 ^ k) = false := decide_eq_false ha
          by_cases hb : y0 < -2 ^ k
          · have htb : decide (y0 < -2 ^ k) = true := decide_eq_true hb
            clear hr ha
            go_wp2_with fail
            go_quiet ((go_at_call 29; exact Calls.quiet_of_same ((half_any _ k (by omega)).mono fun _ _ h => ⟨h.1, h.2.symm⟩)))
            go_wp2_with fail
            go_roundw
            case rel =>
              obtain ⟨d, hd⟩ := HWX.out
              exact ⟨k + 1, by go_num, by omega, hk40.out, HKN.out, d + nq, by rw [hd, World.drewN_drewN]⟩
            case measure => simp [intOf]; have := hk40.out; omega

          · have hnb : decide (y0 < -2 ^ k) = false := decide_eq_false hb
            by_cases hc : 2 ^ k ≤ x1
            · have htc : decide (2 ^ k ≤ x1) = true := decide_eq_true hc
              clear hr ha hb
              go_wp2_with fail
              go_quiet ((go_at_call 29; exact Calls.quiet_of_same ((half_any _ k (by omega)).mono fun _ _ h => ⟨h.1, h.2.symm⟩)))
              go_wp2_with fail
              go_roundw
              case rel =>
                obtain ⟨d, hd⟩ := HWX.out
                exact ⟨k + 1, by go_num, by omega, hk40.out, HKN.out, d + nq, by rw [hd, World.drewN_drewN]⟩
              case measure => simp [intOf]; have := hk40.out; omega

            · have hnc : decide (2 ^ k ≤ x1) = false := decide_eq_false hc
              have hd : 2 ^ k ≤ y1 := by omega
              have htd : decide (2 ^ k ≤ y1) = true := decide_eq_true hd
              clear hr ha hb hc
              go_wp2_with fail
              go_quiet ((go_at_call 29; exact Calls.quiet_of_same ((half_any _ k (by omega)).mono fun _ _ h => ⟨h.1, h.2.symm⟩)))
              go_wp2_with fail
              go_roundw
              case rel =>
                obtain ⟨d, hd⟩ := HWX.out
                exact ⟨k + 1, by go_num, by omega, hk40.out, HKN.out, d + nq, by rw [hd, World.drewN_drewN]⟩
              case measure => simp [intOf]; have := hk40.out; omega

end Go.Proofs.Ytdbhddkkcchmmaa

namespace Go.Proofs.Ytdbhddkkcchmmaa
open Go.RowKit

/-- The square that begun makes. -/
def firstT : Thing := .sq .alive .dead .dead .alive
def BegunQ (w : World) (e : Ending) (w' : World) : Prop :=
  ∃ (p : Nat) (R : ArR) (S : ArS) (A : Nat → Abs), e = .returned (.tuple #[.pointer (some ⟨p, 0, none⟩), .bool true]) ∧ Ar w' p R S A ∧ (∀ t, t ≠ 63 → A t = ⟨[], []⟩) ∧ S.room = 200000 ∧ (∀ t, t < 64 → S.quota t = 200000) ∧ Within S [firstT] ∧ Below w.heap.size w w' ∧ ∀ b, Own p R b → w.heap.size ≤ b
theorem begunQ_join {r x : Int} {S' : ArS} (hj : JoinR (newA 200000 64) 63 1 0 0 1 r x S') : ∃ A, Rel S' A ∧ (∀ t, t ≠ 63 → A t = ⟨[], []⟩) ∧ S'.room = 200000 ∧ (∀ t, t < 64 → S'.quota t = 200000) ∧ Within S' [firstT] ∧ ∀ u, u < 64 → ((S'.added u).length : Int) ≤ S'.count u := by
  have hA := newA_rel (room := 200000) (by decide) 64
  have d0 : Den (newA 200000 64) 1 .alive := by simp only [Den]
  have d1 : Den (newA 200000 64) 0 .dead := by simp only [Den]
  obtain ⟨A', hm, _⟩ := hA.joinG (t := 63) (n := 0) (by decide) d0 d1 d1 d0 rfl rfl rfl rfl rfl rfl rfl rfl (by decide) hj
  have hq : ∀ t, t < 64 → (newA 200000 64).quota t = 200000 := fun t ht => by simp [newA, ht]
  obtain ⟨_, hw, _⟩ := hm.enough [firstT] (fun i x hd => by
    obtain ⟨e, _, hx⟩ := hd.ent
    cases hx) (fun x hx => by simpa [nodes, firstT] using hx) (by show (1 : Int) < 200000; decide) (by rw [hq 63 (by decide)]; show (1 : Int) < 200000; decide)
  exact ⟨A', hm.st.rel, fun t ht => hm.st.oth t ht, hm.st.room, fun t ht => by rw [hm.st.quota]; exact hq t ht, hw, hm.st.add fun u _ => Int.le_refl _⟩

set_option maxRecDepth 100000 in
set_option maxHeartbeats 3200000 in
theorem begunQ_any (w : World) : Calls Try.prog 10 #[] w (BegunQ w) := by
  go_enter Try.func10, Try.ntmps10
  go_wp2_with fail
  (with_reducible refine (new_any w 200000 (by decide)).mono ?_)
  rintro e w1 ⟨p, R, rfl, hA, hB, hO⟩
  have HA := Lib.hid hA
  have HB := Lib.hid hB
  have HO := Lib.hid hO
  clear hA hB hO
  go_wp2_with fail
  have hI := newA_inv (room := 200000) (by decide) 64
  have hjn : Calls Try.prog 27 #[.pointer (some ⟨p, 0, none⟩), .int .i64 63, .agg #[.int .i64 1, .int .i64 0, .int .i64 0, .int .i64 1]] w1 (JoinPost w1 p R (newA 200000 64) 63 1 0 0 1) := join_any w1 p R (newA 200000 64) HA.out hI rfl 63 (by decide) (Nat.zero_le _) 1 0 0 1
  (with_reducible refine hjn.mono ?_)
  rintro e w2 ⟨r, x, S2, R2, rfl, hj, hA2, hS2⟩
  obtain ⟨A2, g1, g2, g3, g4, g5, g6⟩ := begunQ_join hj
  obtain ⟨rfl, rfl, hc, _⟩ := begun_join hj
  have HA2 := Lib.hid hA2
  have HC := Lib.hid hc
  have HG := Lib.hid (And.intro (Ar.mk hA2 g1 g6) (And.intro g2 (And.intro g3 (And.intro g4 g5))))
  have HB2 : Hid (Below w.heap.size w w2) := HB.out.trans (hS2.mod.below HB.out.size fun b hb ho => absurd (HO.out b ho) (by omega))
  have HO2 : Hid (∀ b, Own p R2 b → w.heap.size ≤ b) := fun b hb => by
    rcases hS2.own b hb with h1 | h1
    · exact HO.out b h1
    · exact Nat.le_trans HB.out.size h1
  clear hI hjn hj hA2 hS2 hc g1 g2 g3 g4 g5 g6
  go_wp2_with fail
  have hcn : Calls Try.prog 13 #[.pointer (some ⟨p, 0, none⟩), .int .i64 63] w2 fun e w' => e = .returned (.int .i64 (S2.count 63)) ∧ w2 = w' := count_any w2 p R2 S2 HA2.out 63 (by decide)
  (with_reducible refine hcn.mono ?_)
  rintro e wq ⟨rfl, rfl⟩
  rw [HC.out]
  go_wp2_with fail
  go_returns
  exact ⟨p, R2, S2, A2, rfl, HG.out.1, HG.out.2.1, HG.out.2.2.1, HG.out.2.2.2.1, HG.out.2.2.2.2, HB2.out, HO2.out⟩
end Go.Proofs.Ytdbhddkkcchmmaa

namespace Go.Proofs.Ytdbhddkkcchmmaa
open Go.RowKit

theorem nodup_len {α : Type} {l l' : List α} (h : l.Nodup) (h' : l'.Nodup) (hm : ∀ x, x ∈ l ↔ x ∈ l') : l.length = l'.length :=
  Nat.le_antisymm (List.Nodup.length_le_of_subset h fun x hx => (hm x).1 hx) (List.Nodup.length_le_of_subset h' fun x hx => (hm x).2 hx)
theorem Den.nodes {S : ArS} : ∀ {T : Tree} {id : Int}, Den S id T → ∀ x ∈ nodes T, ∃ i : Nat, DenT S i x
  | .dead, _, _, x, hx => by simp [Go.Proofs.Ytdbhddkkcchmmaa.nodes] at hx
  | .alive, _, _, x, hx => by simp [Go.Proofs.Ytdbhddkkcchmmaa.nodes] at hx
  | .node a b c d, id, hd, x, hx => by
    have hd2 := hd
    simp only [Den] at hd
    obtain ⟨i, e, rfl, h4, h5, h6, h7, g0, g1, g2, g3⟩ := hd
    rcases mem_nodes.1 hx with rfl | k | k | k | k
    · exact ⟨i, hd2⟩
    · exact Den.nodes g0 x k
    · exact Den.nodes g1 x k
    · exact Den.nodes g2 x k
    · exact Den.nodes g3 x k
section
variable {S S1 S2 : ArS} {A A1 A2 : Nat → Abs} {t u : Nat} {T : Tree} {p q : Int}
/-- The things of a root of few cells. -/
theorem root_few (l : List (Int × Int)) {k : Nat} (hk : k ≤ 43) : ∃ V : List Thing, (∀ x ∈ nodes (rootT (setOfL l) k), x ∈ V) ∧ V.length ≤ 44 + l.length * 44 := by
  obtain ⟨V, h1, h2⟩ := nodes_few l (k + 1) (-2 ^ k) (-2 ^ k)
  refine ⟨blanks (k + 1) ++ V, h1, ?_⟩
  rw [List.length_append, blanks_length]
  have := Nat.mul_le_mul (cntB_le l (k + 1) (-2 ^ k) (-2 ^ k)) (show k + 1 ≤ 44 by omega)
  omega
/-- A second tenant makes nothing new. -/
theorem made_again (h1 : Rel S1 A1) (_ht : u < 64) (hm : Made u (nodes T) S1 A1 0 S2 A2 0) (hp : Den S1 p T) (hr : S1.live < S1.room) (hq : S1.live < S1.quota u) : S2.live = S1.live ∧ Stays (fun _ => True) S1 S2 := by
  obtain ⟨V, v1, v2, v3, v4⟩ := h1.things
  obtain ⟨_, w2, w3⟩ := hm.enough V v2 (fun x hx => by obtain ⟨i, hi⟩ := hp.nodes x hx; exact v2 i x hi) (by omega) (by omega)
  obtain ⟨V', v1', v2', v3', v4'⟩ := hm.st.rel.things
  have g1 := hm.st.rel.live_le w2
  have g2 := List.Nodup.length_le_of_subset v1 (l₂ := V') fun x hx => by obtain ⟨i, hi⟩ := v4 x hx; exact v2' i x (DenT.stays w3 hi)
  exact ⟨by omega, w3⟩
theorem made_count (hn : (A t).have_ = []) (hm : Made t (nodes T) S A 0 S1 A1 0) : ∀ x, x ∈ (A1 t).have_ ↔ x ∈ nodes T := fun x => by
  rw [(hm.ok rfl).2.1, hn]; simp
/-- What QuadShared asks. -/
theorem shared_law (ht : t < 62) (hu : u < 62) (hn : ∀ t, t ≠ 63 → A t = ⟨[], []⟩) (hm1 : Made t (nodes T) S A 0 S1 A1 0) (hd1 : Has S1 A1 t p T) (hm2 : Made u (nodes T) S1 A1 0 S2 A2 0) (hd2 : Has S2 A2 u q T) (hr : S1.live < S1.room) (hq : S1.live < S1.quota u) :
    p = q ∧ S2.live = S1.live ∧ S2.count t = S1.count t ∧ S2.count u = S1.count t := by
  obtain ⟨g1, g2⟩ := made_again hm1.st.rel (by omega) hm2 hd1.1 hr hq
  have c1 := made_count (by rw [hn t (by omega)]) hm1
  have n1 := (hm1.st.rel.ok t (by omega)).nodup
  refine ⟨Den.inj (Den.stays g2 hd1.1) hd2.1, g1, ?_, ?_⟩
  · rw [hm2.st.rel.count (by omega), hm1.st.rel.count (by omega)]
    have : (A2 t).have_.length = (A1 t).have_.length := by
      by_cases e : t = u
      · subst e
        refine nodup_len (hm2.st.rel.ok t (by omega)).nodup n1 fun x => ?_
        rw [(hm2.ok rfl).2.1, c1]; simp
      · rw [hm2.st.oth t e]
    omega
  · rw [hm2.st.rel.count (by omega), hm1.st.rel.count (by omega)]
    have : (A2 u).have_.length = (A1 t).have_.length := by
      refine nodup_len (hm2.st.rel.ok u (by omega)).nodup n1 fun x => ?_
      rw [(hm2.ok rfl).2.1, c1]
      by_cases e : u = t
      · subst e; rw [c1]; simp
      · rw [hm1.st.oth u e, hn u (by omega)]; simp
    omega
/-- Making a root of few cells in an arena that has few things. -/
theorem made_fine {l : List (Int × Int)} {k : Nat} {bad : Int} {V : List Thing} (hk : k ≤ 43) (hV : Within S V) (hl : V.length + (44 + l.length * 44) < 200000) (hr : S.room = 200000) (hq : S.quota t = 200000) (hm : Made t (nodes (rootT (setOfL l) k)) S A 0 S1 A1 bad) :
    bad = 0 ∧ (∃ V', Within S1 V' ∧ V'.length ≤ V.length + (44 + l.length * 44)) ∧ Stays (fun _ => True) S S1 := by
  obtain ⟨V0, h1, h2⟩ := root_few l hk
  obtain ⟨g1, g2, g3⟩ := hm.enough (V ++ V0) (fun i x hd => List.mem_append_left _ (hV i x hd)) (fun x hx => List.mem_append_right _ (h1 x hx)) (by rw [List.length_append, hr]; omega) (by rw [List.length_append, hq]; omega)
  exact ⟨g1, ⟨_, g2, by rw [List.length_append]; omega⟩, g3⟩
end
end Go.Proofs.Ytdbhddkkcchmmaa
