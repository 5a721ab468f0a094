/- From a walk that leaves old memory alone to a row's post: every argument reads as it did. And slices of structs of two fields, opened. · Rows of cells (pairs of integers) as functions, in an own block. No program is named here. · A list of cells as an argument: what a row's precondition says of it. · Lists without neighbours that are alike; rows of cells as functions. No program is named here. · slices.Compact at []api.Cell. · cmp.Compare, cmp.Or of two, plane.order, plane.within: what they answer. -/
import Derived.Test.YtdbhddkkcchmmaaRows
import Derived.ProofKit
import Derived.Deep.Slices
import Derived.Deep.Fields
import Derived.Carry
import Derived.SizedLaws
import Derived.BigQuiet
import Derived.Deep.QuietTactic
import Derived.Laws.StructEq
import Derived.WalkKit
import Derived.WalkSpells
import Derived.Deep.RegionHeld3
import Derived.Shelf.SlSortCmp.WholeK
import Derived.Test.YtdbhddkkcchmmaaZ1

namespace Go.Proofs.Ytdbhddkkcchmmaa
open Go.RowKit Go.ChangeShapes Go.WideShapes

section
variable {H : Type} {enc : TypeId × Value → H} {P : Program}

theorem trodAll_below (hl : laidOutB P = true) {W W' : World} (hb : Below W.heap.size W W') : ∀ (ts : List TypeId) (vs : List Value) (ds : List (DataW H)) (ps : List MemPlace),
    (∀ t ∈ ts, P.readableRec t = true ∧ t < P.types.size) → DataW.TrodAll enc P W 0 (fun _ => true) true ts vs ds ps → (∀ x ∈ ps, x.block < W.heap.size) →
    DataW.TrodAll enc P W' 0 (fun b => decide (b < W.heap.size)) true ts vs ds ps
  | [], [], [], _, _, h, _ => h
  | t :: ts, v :: vs, d :: ds, ps, ht, h, hlt => by
    obtain ⟨p, q, h1, h2, rfl⟩ := h
    obtain ⟨r1, r2⟩ := ht t (by simp)
    exact ⟨p, q, Below.trod hl r1 r2 h1 hb (fun x hx => hlt x (by simp [hx])), trodAll_below hl hb ts vs ds q (fun t ht' => ht t (by simp [ht'])) h2 (fun x hx => hlt x (by simp [hx])), rfl⟩

/-- A law that answers true and leaves old memory alone meets its row's post. -/
theorem law_post (hl : laidOutB P = true) {f : Func} {s : ChangeSpec} {W W' : World} {args : Array Value} {ds gs : List (DataW H)} {before : List MemPlace}
    (hts : ∀ t ∈ f.params.toList, P.readableRec t = true ∧ t < P.types.size) (hvars : s.vars = [])
    (hW : DataW.Whole enc P f.params.toList s.vars false W args.toList ds gs before) (hb : Below W.heap.size W W') {tb : TypeId} (hrt : f.resultTypes = #[tb]) (htb : P.underlying tb = some .bool)
    (hres : (s.fn H (ds ++ gs)).results = [.lit (.bool true)]) (hargs : (s.fn H (ds ++ gs)).args = ds) (hsv : (s.fn H (ds ++ gs)).vars = []) :
    s.post enc P f false true false false W args (.bool true) W' := by
  have hW' := hW
  obtain ⟨p, q, h1, h2, rfl, h4, h5⟩ := hW
  rw [hvars] at h2
  have hgs : gs = [] ∧ q = [] := by
    cases gs with
    | nil => exact ⟨rfl, h2⟩
    | cons g gs => exact h2.elim
  obtain ⟨rfl, rfl⟩ := hgs
  simp only [List.append_nil] at hres hargs hsv hW' ⊢
  have hlt : ∀ x ∈ p, x.block < W.heap.size := fun x hx => hW'.lt x hx
  refine ⟨ds, [], p, [], p, [], hW', ?_, ?_, ?_, hb.frame _, (fun h => by cases h)⟩
  · simp only [List.append_nil]
    rw [hres, hrt]
    exact trodAll_mk1 (shut_bool htb true)
  · simp only [List.append_nil]
    rw [hargs]
    exact trodAll_below hl hb _ _ _ _ hts h1 hlt
  · simp only [List.append_nil]
    rw [hsv, hvars]
    rfl

theorem open_two {w : World} {base : Nat} {spare : Nat → Bool} {held : Bool} {t e : TypeId} {f0 f1 : Field} {fuel : Nat} {cs : List Value} {x : DataW H × List MemPlace}
    (ht : P.underlying t = some (.slice e)) (he : P.underlying e = some (.struct #[f0, f1])) (o0 : f0.offset = 0) (o1 : f1.offset = 1) (k0 : P.cellsOf f0.type = 1) (k1 : P.cellsOf f1.type = 1) (hC : P.cellsOf e = 2)
    (h : DataW.trod enc P w base spare held fuel t cs = some x) :
    (cs = [.slice none 0 0]) ∨
    ∃ (a : Addr) (len cap : Nat), cs = [.slice (some a) len cap] ∧ len ≤ cap ∧ cap ≤ maxLen ∧ ∀ i, i < len → ∃ v0 v1 n y0 y1, w.cell? (a.add (i * 2)) = some v0 ∧ w.cell? ((a.add (i * 2)).add 1) = some v1 ∧
      DataW.trod enc P w base spare held n f0.type [v0] = some y0 ∧ DataW.trod enc P w base spare held n f1.type [v1] = some y1 := by
  rcases Go.Deep.open_slice ht h with h0 | ⟨a, len, cap, m, n, D, Pl, hcs, hb, hl, hm, hmm, hx, hi⟩
  · exact .inl h0.1
  · refine .inr ⟨a, len, cap, hcs, hl, hm, fun i hil => ?_⟩
    obtain ⟨cs', hc, ht'⟩ := hi i (by rw [hmm]; split <;> omega)
    rw [hC] at hc
    obtain ⟨_, hlen, hat⟩ := World.cells?_some hc
    match cs', hlen with
    | [v0, v1], _ =>
      obtain ⟨ys, n', _, hy, _, hyl, hf⟩ := DataW.trod_struct he ht'
      match ys, hyl with
      | [y0, y1], _ =>
        have g0 := hf 0 f0 rfl
        have g1 := hf 1 f1 rfl
        rw [o0, k0] at g0
        rw [o1, k1] at g1
        have c0 := hat 0 (by omega)
        have c1 := hat 1 (by omega)
        refine ⟨v0, v1, n', y0, y1, ?_, c1, g0, g1⟩
        simpa [Addr.add] using c0
end
end Go.Proofs.Ytdbhddkkcchmmaa

namespace Go.Proofs.Ytdbhddkkcchmmaa
open Go.RowKit

/-- n cells from place off of block b on, the block of type t: F. -/
def RowC (w : World) (t b off n : Nat) (F : Nat → Int × Int) : Prop :=
  ∃ cs, Blk w b t cs ∧ off + n * 2 ≤ cs.size ∧ ∀ i, i < n → cs[off + i * 2]? = some (.int .i64 (F i).1) ∧ cs[off + i * 2 + 1]? = some (.int .i64 (F i).2)

def flat (l : List (Int × Int)) : List Value := l.flatMap fun c => [.int .i64 c.1, .int .i64 c.2]
theorem flat_length (l : List (Int × Int)) : (flat l).length = l.length * 2 := by
  induction l with
  | nil => rfl
  | cons a r ih => simp only [flat, List.flatMap_cons, List.length_append, List.length_cons, List.length_nil] at ih ⊢; omega
theorem flat_append (l m : List (Int × Int)) : flat (l ++ m) = flat l ++ flat m := by simp [flat]
theorem flat_get (l : List (Int × Int)) : ∀ (i : Nat) (c : Int × Int), l[i]? = some c → (flat l)[i * 2]? = some (.int .i64 c.1) ∧ (flat l)[i * 2 + 1]? = some (.int .i64 c.2) := by
  induction l with
  | nil => intro i c h; simp at h
  | cons a r ih =>
    intro i c h
    match i, h with
    | 0, h => simp at h; subst h; simp [flat]
    | i + 1, h =>
      have := ih i c (by simpa using h)
      rw [show flat (a :: r) = [.int .i64 a.1, .int .i64 a.2] ++ flat r from rfl]
      rw [show (i + 1) * 2 = i * 2 + 2 by omega, List.getElem?_append_right (by simp), List.getElem?_append_right (by simp)]
      simpa using this
theorem flat_mem {l : List (Int × Int)} {u : Value} (h : u ∈ flat l) : ∃ n, u = .int .i64 n := by
  simp only [flat, List.mem_flatMap, List.mem_cons, List.not_mem_nil, or_false] at h
  obtain ⟨c, _, h | h⟩ := h
  · exact ⟨_, h⟩
  · exact ⟨_, h⟩
theorem flat_one {l : List (Int × Int)} : ∀ u ∈ flat l, u.oneCell' = true := fun u hu => by obtain ⟨n, rfl⟩ := flat_mem hu; rfl

section
variable {w w' : World} {t b off n : Nat} {F : Nat → Int × Int}
theorem RowC.cell1 (h : RowC w t b off n F) {i : Nat} (hi : i < n) : w.cell? ⟨b, off + i * 2, none⟩ = some (.int .i64 (F i).1) := by
  obtain ⟨cs, h1, _, h3⟩ := h; rw [h1.cell]; exact (h3 i hi).1
theorem RowC.cell2 (h : RowC w t b off n F) {i : Nat} (hi : i < n) : w.cell? ⟨b, off + i * 2 + 1, none⟩ = some (.int .i64 (F i).2) := by
  obtain ⟨cs, h1, _, h3⟩ := h; rw [h1.cell]; exact (h3 i hi).2
theorem RowC.frozen (h : RowC w t b off n F) (j : Nat) : w.frozen? ⟨b, j, none⟩ = false := by
  obtain ⟨cs, h1, _, _⟩ := h; exact h1.frozen j
theorem RowC.lt (h : RowC w t b off n F) : b < w.heap.size := by obtain ⟨cs, h1, _, _⟩ := h; exact h1.lt
theorem RowC.of_block (h : RowC w t b off n F) (e : w'.heap[b]? = w.heap[b]?) : RowC w' t b off n F := by
  obtain ⟨cs, h1, h2, h3⟩ := h; exact ⟨cs, e.trans h1, h2, h3⟩
theorem RowC.congr {G : Nat → Int × Int} (h : RowC w t b off n F) (e : ∀ i, i < n → F i = G i) : RowC w t b off n G := by
  obtain ⟨cs, h1, h2, h3⟩ := h; exact ⟨cs, h1, h2, fun i hi => by rw [← e i hi]; exact h3 i hi⟩
theorem RowC.drewN (h : RowC w t b off n F) (k : Nat) : RowC (w.drewN k) t b off n F := h
theorem RowC.alloc (h : RowC w t b off n F) (o : Obj) : RowC (w.alloc o) t b off n F := h.of_block (Below.heap_alloc w o b h.lt)
theorem RowC.far (h : RowC w t b off n F) {p : Addr} (hp : b ≠ p.block) (u : Value) : RowC (w.setCell p u) t b off n F := h.of_block (Below.heap_setCell w p u b hp)
theorem RowC.set (h : RowC w t b off n F) {i : Nat} (_hi : i < n) (x y : Int) :
    RowC ((w.setCell ⟨b, off + i * 2, none⟩ (.int .i64 x)).setCell ⟨b, off + i * 2 + 1, none⟩ (.int .i64 y)) t b off n (fun j => if j = i then (x, y) else F j) := by
  obtain ⟨cs, h1, h2, h3⟩ := h
  refine ⟨_, (h1.set _ _).set _ _, by simpa using h2, fun j hj => ?_⟩
  by_cases e : j = i
  · subst e
    simp only [if_true]
    constructor
    · rw [Array.getElem?_setIfInBounds_ne (by omega), Array.getElem?_setIfInBounds_self_of_lt (by omega)]
    · rw [Array.getElem?_setIfInBounds_self_of_lt (by simp; omega)]
  · simp only [if_neg e]
    rw [Array.getElem?_setIfInBounds_ne (by omega), Array.getElem?_setIfInBounds_ne (by omega), Array.getElem?_setIfInBounds_ne (by omega), Array.getElem?_setIfInBounds_ne (by omega)]
    exact h3 j hj
/-- As a slice. -/
theorem RowC.sl (h : RowC w t b off n F) {m cap : Nat} (hm : m ≤ cap) (hc : cap ≤ n) (hM : cap ≤ maxLen) : Sl w t 2 (.slice (some ⟨b, off, none⟩) m cap) m (flat ((List.range m).map F)) := by
  obtain ⟨cs, h1, h2, h3⟩ := h
  have hlen : (flat ((List.range m).map F)).length = m * 2 := by rw [flat_length]; simp
  refine ⟨hlen, _, _, rfl, hm, hM, (fun h => nomatch h), fun a ha => ?_⟩
  injection ha with ha; subst ha
  refine ⟨cs, rfl, h1, by show off + cap * 2 ≤ _; omega, ?_⟩
  apply List.ext_getElem?
  intro j
  show ((cs.toList.drop off).take (m * 2))[j]? = _
  by_cases hj : j < m * 2
  · rw [List.getElem?_take_of_lt hj, List.getElem?_drop]
    have hq : ((List.range m).map F)[j / 2]? = some (F (j / 2)) := by
      rw [List.getElem?_map, List.getElem?_range (by omega)]; rfl
    obtain ⟨g1, g2⟩ := flat_get _ (j / 2) _ hq
    obtain ⟨k1, k2⟩ := h3 (j / 2) (by omega)
    rcases (show j = j / 2 * 2 ∨ j = j / 2 * 2 + 1 by omega) with e | e
    · rw [e, g1]; simpa using k1
    · rw [e, g2]; simpa [Nat.add_assoc] using k2
  · rw [List.getElem?_eq_none (by simp; omega), List.getElem?_eq_none (by omega)]
/-- And back. -/
theorem Sl.rowC {m cap : Nat} {l : List (Int × Int)} (h : Sl w t 2 (.slice (some ⟨b, off, none⟩) m cap) m (flat l)) : RowC w t b off m (fun i => l[i]!) ∧ l.length = m := by
  obtain ⟨h1, A, cap', e, h2, h3, h4, h5⟩ := h
  injection e with e1 e2 e3
  subst e1 e3
  obtain ⟨cs, c1, c2, c3, c4⟩ := h5 _ rfl
  have hl : l.length = m := by rw [flat_length] at h1; omega
  have c3' : off + cap * 2 ≤ cs.size := c3
  refine ⟨⟨cs, c2, by omega, fun i hi => ?_⟩, hl⟩
  have hq : l[i]? = some l[i]! := by rw [List.getElem!_eq_getElem?_getD, List.getElem?_eq_getElem (by omega)]; rfl
  obtain ⟨g1, g2⟩ := flat_get l i _ hq
  rw [← c4] at g1 g2
  rw [List.getElem?_take_of_lt (by omega), List.getElem?_drop] at g1 g2
  exact ⟨by simpa using g1, by simpa [Nat.add_assoc] using g2⟩
end

/-- What can be read as cells: a list of pairs. -/
theorem Rd.pairs {w : World} {B n : Nat} {v : Value} {l : List (Int × Int)} (h : Rd w B 2 v n (flat l)) : l.length = n ∧
    (0 < n → ∃ b off cap, v = .slice (some ⟨b, off, none⟩) n cap ∧ n ≤ cap ∧ cap ≤ maxLen ∧ b < B ∧ ∀ i, i < n → w.cell? ⟨b, off + i * 2, none⟩ = some (.int .i64 (l[i]!).1) ∧ w.cell? ⟨b, off + i * 2 + 1, none⟩ = some (.int .i64 (l[i]!).2)) := by
  have hl : l.length = n := by have := h.1; rw [flat_length] at this; omega
  refine ⟨hl, fun hn => ?_⟩
  obtain ⟨b, off, cap, e, h1, h2, h3, h4⟩ := h.at hn
  refine ⟨b, off, cap, e, h1, h2, h3, fun i hi => ?_⟩
  have hq : l[i]? = some l[i]! := by rw [List.getElem!_eq_getElem?_getD, List.getElem?_eq_getElem (by omega)]; rfl
  obtain ⟨g1, g2⟩ := flat_get l i _ hq
  exact ⟨h4 _ _ g1, by rw [Nat.add_assoc]; exact h4 _ _ g2⟩
theorem flat_drop (l : List (Int × Int)) : ∀ k, flat (l.drop k) = (flat l).drop (k * 2) := by
  induction l with
  | nil => intro k; simp [flat]
  | cons a r ih =>
    intro k
    cases k with
    | zero => simp
    | succ k =>
      rw [List.drop_succ_cons, ih k]
      show _ = (.int .i64 a.1 :: .int .i64 a.2 :: flat r).drop _
      rw [show (k + 1) * 2 = k * 2 + 1 + 1 by omega, List.drop_succ_cons, List.drop_succ_cons]
theorem flat_take (l : List (Int × Int)) : ∀ k, flat (l.take k) = (flat l).take (k * 2) := by
  induction l with
  | nil => intro k; simp [flat]
  | cons a r ih =>
    intro k
    cases k with
    | zero => simp [flat]
    | succ k =>
      rw [List.take_succ_cons]
      show .int .i64 a.1 :: .int .i64 a.2 :: flat (r.take k) = (.int .i64 a.1 :: .int .i64 a.2 :: flat r).take _
      rw [ih k, show (k + 1) * 2 = k * 2 + 1 + 1 by omega, List.take_succ_cons, List.take_succ_cons]
theorem Rd.cut {w : World} {B b off n cap k : Nat} {l : List (Int × Int)} (h : Rd w B 2 (.slice (some ⟨b, off, none⟩) n cap) n (flat l)) (hk : k ≤ n) :
    Rd w B 2 (.slice (some ⟨b, off + k * 2, none⟩) (n - k) (cap - k)) (n - k) (flat (l.drop k)) := by
  obtain ⟨h1, A, cap', e, h2, h3, h4⟩ := h
  injection e with e1 _ e3
  subst e1 e3
  rw [flat_drop]
  refine ⟨by rw [List.length_drop, h1]; omega, _, _, rfl, by omega, by omega, fun hn => ?_⟩
  obtain ⟨b', off', e4, hb, hc⟩ := h4 (by omega)
  injection e4 with e4
  injection e4 with e5 e6 _
  subst e5 e6
  refine ⟨_, _, rfl, hb, fun j u hj => ?_⟩
  rw [List.getElem?_drop] at hj
  have := hc _ u hj
  rwa [← Nat.add_assoc] at this
theorem Rd.upto {w : World} {B n cap k : Nat} {A : Option Addr} {l : List (Int × Int)} (h : Rd w B 2 (.slice A n cap) n (flat l)) (hk : k ≤ n) :
    Rd w B 2 (.slice A k cap) k (flat (l.take k)) := by
  obtain ⟨h1, A', cap', e, h2, h3, h4⟩ := h
  injection e with e1 _ e3
  subst e1 e3
  rw [flat_take]
  refine ⟨by rw [List.length_take, h1]; omega, _, _, rfl, by omega, h3, fun hn => ?_⟩
  obtain ⟨b', off', e4, hb, hc⟩ := h4 (by omega)
  refine ⟨_, _, e4, hb, fun j u hj => ?_⟩
  rw [List.getElem?_take] at hj
  split at hj
  · exact hc _ u hj
  · cases hj
theorem range_map_get (l : List (Int × Int)) : (List.range l.length).map (fun i => l[i]!) = l := by
  apply List.ext_getElem
  · simp
  · intro i h1 h2; simp [List.getElem!_eq_getElem?_getD, List.getElem?_eq_getElem h2]
end Go.Proofs.Ytdbhddkkcchmmaa

namespace Go.Proofs.Ytdbhddkkcchmmaa
open Go.RowKit Go.ChangeShapes Go.WideShapes

theorem Try.ownC : ownKnob Try.prog.godebug = none := by kernel_rfl
theorem Try.laidOutC : laidOutB Try.prog = true := by kernel_rfl
theorem Try.cellS : ∃ f0 f1, Try.prog.underlying 35 = some (.struct #[f0, f1]) ∧ f0.offset = 0 ∧ f1.offset = 1 ∧ f0.type = 3 ∧ f1.type = 3 := by
  exact ⟨_, _, Try.underlying35, rfl, rfl, rfl, rfl⟩
theorem Try.cellsInt : Try.prog.cellsOf 3 = 1 := by kernel_rfl
theorem Try.cellsCell : Try.prog.cellsOf 35 = 2 := by kernel_rfl
theorem Try.bytesCell : Try.prog.bytesOf 35 = 16 := by kernel_rfl

theorem slice_len {H : Type} {enc : TypeId × Value → H} {P : Program} {w : World} {base : Nat} {spare : Nat → Bool} {held : Bool} {t e : TypeId} {fuel : Nat} {a : Addr} {len cap : Nat} {x : DataW H × List MemPlace}
    (ht : P.underlying t = some (.slice e)) (h : DataW.trod enc P w base spare held fuel t [.slice (some a) len cap] = some x) : ∃ elems rest, x.1 = .slice elems rest ∧ elems.length = len := by
  rcases Go.Deep.open_slice ht h with h0 | ⟨a', len', cap', m, n, D, Pl, hcs, hb, hl, hm, hmm, hx, hi⟩
  · simp at h0
  · injection hcs with hcs
    injection hcs with _ e2 _
    subst e2
    subst hx
    exact ⟨_, _, rfl, by simp⟩

/-- A cell whose numbers are ints of 64 bits. -/
def inC (c : Int × Int) : Prop := (-9223372036854775808 ≤ c.1 ∧ c.1 ≤ 9223372036854775807) ∧ (-9223372036854775808 ≤ c.2 ∧ c.2 ≤ 9223372036854775807)

theorem flat_of_cells (W : World) (b off : Nat) (l : List (Int × Int))
    (h : ∀ i, i < l.length → W.cell? ⟨b, off + i * 2, none⟩ = some (.int .i64 l[i]!.1) ∧ W.cell? ⟨b, off + i * 2 + 1, none⟩ = some (.int .i64 l[i]!.2)) :
    ∀ j u, (flat l)[j]? = some u → W.cell? ⟨b, off + j, none⟩ = some u := by
  intro j u hj
  have hjl : j < (flat l).length := by
    rcases Nat.lt_or_ge j (flat l).length with h | h
    · exact h
    · rw [List.getElem?_eq_none h] at hj; cases hj
  rw [flat_length] at hjl
  have hi : j / 2 < l.length := by omega
  have hg : l[j / 2]? = some l[j / 2]! := by rw [List.getElem!_eq_getElem?_getD, List.getElem?_eq_getElem hi]; simp
  obtain ⟨g1, g2⟩ := flat_get l (j / 2) _ hg
  obtain ⟨k1, k2⟩ := h (j / 2) hi
  rcases Nat.mod_two_eq_zero_or_one j with e | e
  · have e' : j = j / 2 * 2 := by omega
    rw [e'] at hj
    rw [hj] at g1
    rw [e']
    rw [g1]; exact k1
  · have e' : j = j / 2 * 2 + 1 := by omega
    rw [e'] at hj
    rw [hj] at g2
    rw [e']
    rw [g2]; exact k2

set_option maxRecDepth 100000 in
theorem cells_of {H : Type} {enc : TypeId × Value → H} {W : World} {base : Nat} {v : Value} {d : DataW H} {p : List MemPlace}
    (hv : Value.okWide Try.prog W .any base 22 v) (h : DataW.Trod enc Try.prog W 0 (fun _ => true) true 22 v d p) :
    ∃ (n : Nat) (l : List (Int × Int)), Rd W W.heap.size 2 v n (flat l) ∧ (∀ c ∈ l, inC c) ∧ (n = 0 ∨ ∃ elems rest, d = .slice elems rest ∧ elems.length = n) := by
  obtain ⟨a0, len, cap, rfl⟩ := okWide_slice Try.underlying22 hv
  obtain ⟨fuel, hf⟩ := h
  obtain ⟨f0, f1, hu, o0, o1, t0, t1⟩ := Try.cellS
  rcases open_two Try.underlying22 hu o0 o1 (by rw [t0]; exact Try.cellsInt) (by rw [t1]; exact Try.cellsInt) Try.cellsCell hf with hcs | ⟨a, len', cap', hcs, hl, hm, hi⟩
  · simp [Value.cells] at hcs
    obtain ⟨rfl, rfl, rfl⟩ := hcs
    exact ⟨0, [], ⟨rfl, _, _, rfl, Nat.le_refl _, Nat.zero_le _, fun h => absurd h (Nat.lt_irrefl _)⟩, by simp, .inl rfl⟩
  · simp [Value.cells] at hcs
    obtain ⟨rfl, rfl, rfl⟩ := hcs
    have hlen := slice_len Try.underlying22 (a := a) (len := len) (cap := cap) hf
    have key : ∀ i, ∃ x : Int × Int, (i < len → W.cell? (a.add (i * 2)) = some (.int .i64 x.1) ∧ W.cell? ((a.add (i * 2)).add 1) = some (.int .i64 x.2)) ∧ inC x := by
      intro i
      by_cases hil : i < len
      · obtain ⟨v0, v1, n, y0, y1, c0, c1, g0, g1⟩ := hi i hil
        rw [t0] at g0
        rw [t1] at g1
        obtain ⟨m0, e0, _, wf0⟩ := DataW.trod_int Try.underlying3 g0
        obtain ⟨m, e1, _, wf⟩ := DataW.trod_int Try.underlying3 g1
        simp at e0 e1
        subst e0 e1
        have hb0 : -9223372036854775808 ≤ m0 ∧ m0 ≤ 9223372036854775807 := by simpa [Lit.wf, IntKind.min, IntKind.max, IntKind.signed, IntKind.bits] using wf0
        have hb : -9223372036854775808 ≤ m ∧ m ≤ 9223372036854775807 := by simpa [Lit.wf, IntKind.min, IntKind.max, IntKind.signed, IntKind.bits] using wf
        exact ⟨(m0, m), fun _ => ⟨c0, c1⟩, hb0, hb⟩
      · exact ⟨(0, 0), fun h => absurd h hil, by unfold inC; decide⟩
    obtain ⟨f, hfx⟩ := Classical.axiomOfChoice key
    have hg : ∀ i, i < len → ((List.range len).map f)[i]! = f i := fun i hi => by simp [List.getElem!_eq_getElem?_getD, List.getElem?_map, List.getElem?_range hi]
    refine ⟨len, (List.range len).map f, ⟨by rw [flat_length]; simp, _, _, rfl, by omega, hm, fun hn => ?_⟩, ?_, .inr hlen⟩
    · obtain ⟨b, off, spot⟩ := a
      have c0 := ((hfx 0).1 hn).1
      have hspot : spot = none := by simpa [Addr.add] using World.cell?_spot c0
      subst hspot
      refine ⟨b, off, rfl, by simpa [Addr.add] using World.block_lt_of_cell? W _ c0, flat_of_cells W b off _ fun i hil => ?_⟩
      have hil' : i < len := by simpa using hil
      obtain ⟨k0, k1⟩ := (hfx i).1 hil'
      rw [Addr.add_lit] at k0 k1
      rw [Addr.add_lit] at k1
      rw [hg i hil']
      exact ⟨k0, k1⟩
    · intro c hc
      simp only [List.mem_map] at hc
      obtain ⟨i, _, rfl⟩ := hc
      exact (hfx i).2
end Go.Proofs.Ytdbhddkkcchmmaa

namespace Go.Proofs.Ytdbhddkkcchmmaa
open Go.RowKit

section
variable {α : Type} [DecidableEq α]
def compStep (acc : List α) (x : α) : List α := if acc.getLast? = some x then acc else acc ++ [x]
/-- Of neighbours that are alike one stays. -/
def compactL (l : List α) : List α := l.foldl compStep []
theorem compactL_snoc (l : List α) (x : α) : compactL (l ++ [x]) = compStep (compactL l) x := by simp [compactL]
theorem compStep_last (acc : List α) (x : α) : (compStep acc x).getLast? = some x := by
  unfold compStep; split
  · assumption
  · simp
omit [DecidableEq α] in
theorem snoc_ind {p : List α → Prop} (h0 : p []) (h1 : ∀ l x, p l → p (l ++ [x])) : ∀ l, p l := by
  intro l
  have : ∀ n (l : List α), l.length = n → p l := by
    intro n
    induction n with
    | zero => intro l hl; rw [List.eq_nil_of_length_eq_zero hl]; exact h0
    | succ n ih =>
      intro l hl
      have hne : l ≠ [] := by intro e; subst e; simp at hl
      rw [← List.dropLast_concat_getLast hne]
      exact h1 _ _ (ih _ (by simp [hl]))
  exact this _ l rfl
theorem compactL_last (l : List α) : (compactL l).getLast? = l.getLast? := by
  refine snoc_ind (p := fun l => (compactL l).getLast? = l.getLast?) rfl ?_ l
  intro l x _
  rw [compactL_snoc, compStep_last]; simp
theorem compactL_mem (l : List α) (c : α) : c ∈ compactL l ↔ c ∈ l := by
  refine snoc_ind (p := fun l => c ∈ compactL l ↔ c ∈ l) (by simp [compactL]) ?_ l
  intro l x ih
  rw [compactL_snoc]; unfold compStep; split
  · rename_i h
    have hx : x ∈ compactL l := List.mem_of_getLast? h
    rw [ih]; simp only [List.mem_append, List.mem_singleton]
    constructor
    · exact fun h => .inl h
    · rintro (h | rfl)
      · exact h
      · refine (by
          have := compactL_last l
          rw [h] at this
          exact List.mem_of_getLast? this.symm)
  · simp [ih]
theorem compactL_sorted {lt : α → α → Prop} (hirr : ∀ a, ¬ lt a a) (htr : ∀ a b c, lt a b → lt b c → lt a c) (l : List α) (hs : l.Pairwise fun a b => lt a b ∨ a = b) : (compactL l).Pairwise lt := by
  revert hs
  refine snoc_ind (p := fun l => (l.Pairwise fun a b => lt a b ∨ a = b) → (compactL l).Pairwise lt) (by simp [compactL]) ?_ l
  intro l x ih hs
  rw [List.pairwise_append] at hs
  obtain ⟨h1, _, h3⟩ := hs
  rw [compactL_snoc]; unfold compStep; split
  · exact ih h1
  · rename_i hne
    rw [List.pairwise_append]
    refine ⟨ih h1, by simp, ?_⟩
    intro a ha b hb
    simp at hb; subst hb
    have ha' : a ∈ l := (compactL_mem l a).1 ha
    rcases h3 a ha' b (by simp) with h | h
    · exact h
    · subst h
      -- a is in the compact list, which is sorted, and its last is not a: then a < last ≤ a
      exfalso
      have hl : compactL l ≠ [] := by intro e; rw [e] at ha; simp at ha
      obtain ⟨la, hla⟩ : ∃ la, (compactL l).getLast? = some la := by
        rw [List.getLast?_eq_some_getLast hl]; exact ⟨_, rfl⟩
      have hd := List.dropLast_concat_getLast hl
      have e2 : (compactL l).getLast hl = la := by rw [List.getLast?_eq_some_getLast hl] at hla; injection hla
      rw [e2] at hd
      have hp := ih h1
      rw [← hd] at hp ha
      rw [List.pairwise_append] at hp
      simp only [List.mem_append, List.mem_singleton] at ha
      have hlam : la ∈ l := (compactL_mem l la).1 (List.mem_of_getLast? hla)
      rcases ha with ha | rfl
      · have h4 := hp.2.2 a ha la (by simp)
        rcases h3 la hlam a (by simp) with h5 | h5
        · have h6 := htr _ _ _ h4 h5
          exact hirr a h6
        · exact hne (by rw [hla, h5])
      · exact hne hla
end
end Go.Proofs.Ytdbhddkkcchmmaa

namespace Go.Proofs.Ytdbhddkkcchmmaa
open Go.RowKit

def eqC (a b : Int × Int) : Bool := a.1 == b.1 && a.2 == b.2
theorem eqC_true (a b : Int × Int) : eqC a b = true ↔ a = b := by
  unfold eqC; simp [Prod.ext_iff]
theorem eqC_false (a b : Int × Int) : eqC a b = false ↔ a ≠ b := by
  have := eqC_true a b
  cases h : eqC a b <;> simp_all

theorem run_eqC (a b : Int × Int) (w : World) : (binOp .eql 35 (.agg #[.int .i64 a.1, .int .i64 a.2]) (.agg #[.int .i64 b.1, .int .i64 b.2])).run Try.prog w = .ok (.bool (eqC a b)) w := by
  have hS : Try.prog.underlying 35 = some (.struct (Try.prog.fieldsOf 35)) := by kernel_rfl
  have hp : Try.prog.stoodInHeld 35 = false := by kernel_rfl
  have u3 := Try.underlying3
  have z3 := Try.sizeOf3
  have a3 := Try.isAgg3
  rw [run_eql_struct, show (10000 : Nat) = 9999 + 1 from rfl, run_equalIn_agg w 9999 _ _ _ hS hp]
  simp only [Program.fieldsOf, Try.underlying35]
  go_simp
  unfold eqC
  by_cases h1 : a.1 = b.1 <;> by_cases h2 : a.2 = b.2 <;> simp [h1, h2]
theorem run_neC (a b : Int × Int) (w : World) : (binOp .neq 35 (.agg #[.int .i64 a.1, .int .i64 a.2]) (.agg #[.int .i64 b.1, .int .i64 b.2])).run Try.prog w = .ok (.bool (!eqC a b)) w := by
  have hS : Try.prog.underlying 35 = some (.struct (Try.prog.fieldsOf 35)) := by kernel_rfl
  have hp : Try.prog.stoodInHeld 35 = false := by kernel_rfl
  have u3 := Try.underlying3
  have z3 := Try.sizeOf3
  have a3 := Try.isAgg3
  rw [run_neq_struct, show (10000 : Nat) = 9999 + 1 from rfl, run_equalIn_agg w 9999 _ _ _ hS hp]
  simp only [Program.fieldsOf, Try.underlying35]
  go_simp
  unfold eqC
  by_cases h1 : a.1 = b.1 <;> by_cases h2 : a.2 = b.2 <;> simp [h1, h2]

def zeros (k : Nat) : List (Int × Int) := List.replicate k (0, 0)

/-- The cells of a row from place i on are set to zero. -/
theorem RowC.zeros {w : World} {t b off n : Nat} {F : Nat → Int × Int} (h : RowC w t b off n F) : ∀ (k i : Nat), i + k ≤ n →
    RowC (w.setCells b (off + i * 2) (flat (zeros k))) t b off n (fun j => if i ≤ j ∧ j < i + k then (0, 0) else F j) := by
  intro k
  induction k generalizing w F with
  | zero =>
    intro i _
    exact h.congr fun j _ => by rw [if_neg (by omega)]
  | succ k ih =>
    intro i hi
    have h1 := ih (h.set (i := i) (by omega) 0 0) (i + 1) (by omega)
    have e : w.setCells b (off + i * 2) (flat (Ytdbhddkkcchmmaa.zeros (k + 1))) = ((w.setCell ⟨b, off + i * 2, none⟩ (.int .i64 0)).setCell ⟨b, off + i * 2 + 1, none⟩ (.int .i64 0)).setCells b (off + (i + 1) * 2) (flat (Ytdbhddkkcchmmaa.zeros k)) := by
      show w.setCells b (off + i * 2) (.int .i64 0 :: .int .i64 0 :: flat (Ytdbhddkkcchmmaa.zeros k)) = _
      rw [World.setCells, World.setCells]
      rw [show off + (i + 1) * 2 = off + i * 2 + 1 + 1 by omega]
    rw [e]
    refine h1.congr fun j hj => ?_
    by_cases e1 : i + 1 ≤ j ∧ j < i + 1 + k
    · rw [if_pos e1, if_pos (by omega)]
    · rw [if_neg e1]
      by_cases e2 : j = i
      · rw [if_pos e2, if_pos (by omega)]
      · rw [if_neg e2, if_neg (by omega)]

theorem Try.info35 : (Try.prog.info? 35).map (fun i => (i.zero, i.size, i.bytes)) = some (some (.agg #[.int .i64 0, .int .i64 0]), 2, 16) := by kernel_rfl

theorem zeroCells_flat (k : Nat) : (Builtin.zeroCells #[.int .i64 0, .int .i64 0] k).toList = flat (zeros k) := by
  have h : ∀ k, (List.range (k * 2)).map (fun i => (#[Value.int .i64 0, Value.int .i64 0] : Array Value)[i % 2]!) = flat (zeros k) := by
    intro k
    induction k with
    | zero => rfl
    | succ k ih =>
      rw [show (k + 1) * 2 = k * 2 + 1 + 1 by omega, List.range_succ, List.range_succ]
      simp only [List.map_append, ih, List.map_cons, List.map_nil, zeros, List.replicate_succ']
      rw [flat_append]
      rw [show (k * 2) % 2 = 0 by omega, show (k * 2 + 1) % 2 = 1 by omega]
      simp [flat]
  have := h k
  unfold Builtin.zeroCells
  simpa using this

/-- clear of the cells from i on. -/
theorem run_clear_cells (w : World) (ty : TypeId) {b off n : Nat} {F : Nat → Int × Int} (h : RowC w 35 b off n F) {i k c : Nat} (hi : i + k ≤ n) (hk : 0 < k) :
    (Builtin.clear_ #[22] ty #[.slice (some ⟨b, off + i * 2, none⟩) k c]).run Try.prog w = .ok (.tuple #[]) (w.setCells b (off + i * 2) (flat (zeros k))) := by
  obtain ⟨cs, h1, h2, h3⟩ := h
  have hz : (zeroValue 35).run Try.prog w = .ok (.agg #[.int .i64 0, .int .i64 0]) w := Try.zeroValue35 w
  have hl : (flat (zeros k)).length = k * 2 := by rw [flat_length]; simp [zeros]
  have hst := run_storeCells_cells (P := Try.prog) b (off + i * 2) (flat (zeros k)) 0 w
    (fun j hj => by rw [Nat.add_zero, h1.cell, Array.getElem?_eq_getElem (by omega)]; rfl) (fun j hj => h1.frozen _) flat_one
  simp only [Nat.add_zero] at hst
  have hk0 : k ≠ 0 := by omega
  cases k with
  | zero => omega
  | succ k =>
    simp only [Builtin.clear_]
    simp [run_underlying Try.underlying22, hz, Value.cells, zeroCells_flat, hst]
end Go.Proofs.Ytdbhddkkcchmmaa

namespace Go.Proofs.Ytdbhddkkcchmmaa
open Go.RowKit

/-- -1, 0, 1: as x is less than, equal to, greater than y. -/
def cmpZ (x y : Int) : Int := if x < y then -1 else if y < x then 1 else 0
/-- By row, then by column. -/
def ordZ (a b : Int × Int) : Int := if cmpZ a.2 b.2 = 0 then cmpZ a.1 b.1 else cmpZ a.2 b.2
def ltC (a b : Int × Int) : Prop := a.2 < b.2 ∨ a.2 = b.2 ∧ a.1 < b.1
theorem cmpZ_zero (x y : Int) : cmpZ x y = 0 ↔ x = y := by unfold cmpZ; split <;> (try split) <;> omega
theorem cmpZ_neg (x y : Int) : cmpZ x y < 0 ↔ x < y := by unfold cmpZ; split <;> (try split) <;> omega
theorem cmpZ_pos (x y : Int) : 0 < cmpZ x y ↔ y < x := by unfold cmpZ; split <;> (try split) <;> omega
theorem ordZ_neg (a b : Int × Int) : ordZ a b < 0 ↔ ltC a b := by
  unfold ordZ ltC
  have h1 := cmpZ_zero a.2 b.2
  have h2 := cmpZ_neg a.2 b.2
  have h3 := cmpZ_neg a.1 b.1
  split <;> omega
theorem ordZ_pos (a b : Int × Int) : 0 < ordZ a b ↔ ltC b a := by
  unfold ordZ ltC
  have h1 := cmpZ_zero a.2 b.2
  have h2 := cmpZ_pos a.2 b.2
  have h3 := cmpZ_pos a.1 b.1
  split <;> omega
theorem ordZ_zero (a b : Int × Int) : ordZ a b = 0 ↔ a = b := by
  unfold ordZ
  have h1 := cmpZ_zero a.2 b.2
  have h3 := cmpZ_zero a.1 b.1
  constructor
  · intro h; split at h
    · exact Prod.ext (by omega) (by omega)
    · omega
  · rintro rfl; simp [(cmpZ_zero _ _).2]

theorem isNaN_any (x : Int) (w : World) : Calls Try.prog 71 #[.int .i64 x] w fun e w' => e = .returned (.bool false) ∧ w = w' := by
  go_enter Try.func71, Try.ntmps71
  go_wp2
  go_ret
  exact ⟨by simp, rfl⟩

theorem compare_any (x y : Int) (w : World) : Calls Try.prog 58 #[.int .i64 x, .int .i64 y] w fun e w' => e = .returned (.int .i64 (cmpZ x y)) ∧ w = w' := by
  by_cases h1 : x < y
  · have e : cmpZ x y = -1 := by unfold cmpZ; rw [if_pos h1]
    rw [e]
    go_enter Try.func58, Try.ntmps58
    go_wp2_with (go_at_call 71; refine (isNaN_any _ _).mono ?_; rintro e w' ⟨rfl, rfl⟩)
    go_ret
    exact ⟨rfl, rfl⟩
  · by_cases h2 : y < x
    · have e : cmpZ x y = 1 := by unfold cmpZ; rw [if_neg h1, if_pos h2]
      rw [e]
      go_enter Try.func58, Try.ntmps58
      go_wp2_with (go_at_call 71; refine (isNaN_any _ _).mono ?_; rintro e w' ⟨rfl, rfl⟩)
      go_ret
      exact ⟨rfl, rfl⟩
    · have e : cmpZ x y = 0 := by unfold cmpZ; rw [if_neg h1, if_neg h2]
      rw [e]
      go_enter Try.func58, Try.ntmps58
      go_wp2_with (go_at_call 71; refine (isNaN_any _ _).mono ?_; rintro e w' ⟨rfl, rfl⟩)
      go_ret
      exact ⟨rfl, rfl⟩

def orZ (x y : Int) : Int := if x = 0 then y else x
theorem or_two (b : Nat) (x y : Int) (w : World) (h0 : w.cell? ⟨b, 0, none⟩ = some (.int .i64 x)) (h1 : w.cell? ⟨b, 1, none⟩ = some (.int .i64 y)) :
    Calls Try.prog 57 #[.slice (some ⟨b, 0, none⟩) 2 2] w fun e w' => e = .returned (.int .i64 (orZ x y)) ∧ w = w' := by
  by_cases hx : x = 0
  · subst hx
    rw [show orZ 0 y = y from rfl]
    by_cases hy : y = 0
    · subst hy
      go_enter Try.func57, Try.ntmps57
      go_wp2
      refine wp_loop_rounds 3 ?_; rw [rounds_succ]
      go_wp2
      rw [rounds_succ]
      go_wp2
      rw [rounds_succ]
      go_wp2
      go_ret
      exact ⟨rfl, rfl⟩
    · have hy' : (y != 0) = true := by simp; omega
      clear hy
      go_enter Try.func57, Try.ntmps57
      go_wp2
      refine wp_loop_rounds 2 ?_; rw [rounds_succ]
      go_wp2
      rw [rounds_succ]
      go_wp2
      go_ret
      exact ⟨rfl, rfl⟩
  · have hx' : (x != 0) = true := by simp; omega
    rw [show orZ x y = x by unfold orZ; rw [if_neg hx]]
    clear hx
    go_enter Try.func57, Try.ntmps57
    go_wp2
    refine wp_loop_rounds 1 ?_; rw [rounds_succ]
    go_wp2
    go_ret
    exact ⟨rfl, rfl⟩

theorem within_any (x : Int) (w : World) : Calls Try.prog 41 #[.int .i64 x] w fun e w' => e = .returned (.bool (decide (-1099511627776 < x ∧ x < 1099511627776))) ∧ w = w' := by
  by_cases h1 : -1099511627776 < x
  · by_cases h2 : x < 1099511627776
    · have e : decide (-1099511627776 < x ∧ x < 1099511627776) = true := by simp [h1, h2]
      rw [e]
      go_enter Try.func41, Try.ntmps41
      go_wp2
      go_ret
      exact ⟨by simp, rfl⟩
    · have e : decide (-1099511627776 < x ∧ x < 1099511627776) = false := by simp [h2]
      rw [e]
      go_enter Try.func41, Try.ntmps41
      go_wp2
      go_ret
      exact ⟨by simp, rfl⟩
  · have e : decide (-1099511627776 < x ∧ x < 1099511627776) = false := by simp [h1]
    rw [e]
    go_enter Try.func41, Try.ntmps41
    go_wp2
    go_ret
    exact ⟨by simp, rfl⟩

open Go.Shelf Go.Sort Go.Lib in
set_option maxHeartbeats 1600000 in
theorem order_any (a b : Int × Int) (W : World) : Calls Try.prog 44 #[.agg #[.int .i64 a.1, .int .i64 a.2], .agg #[.int .i64 b.1, .int .i64 b.2]] W fun e w' =>
    e = .returned (.int .i64 (ordZ a b)) ∧ ∃ q os', w' = grow (W.drewN q) os' := by
  obtain ⟨ax, ay⟩ := a
  obtain ⟨bx, bY⟩ := b
  have e : ordZ (ax, ay) (bx, bY) = orZ (cmpZ ay bY) (cmpZ ax bx) := rfl
  rw [e]
  clear e
  generalize hz1 : cmpZ ay bY = z1
  generalize hz2 : cmpZ ax bx = z2
  have c1 : ∀ w, Calls Try.prog 58 #[.int .i64 ay, .int .i64 bY] w fun e w' => e = .returned (.int .i64 z1) ∧ w = w' := fun w => hz1 ▸ compare_any ay bY w
  have c2 : ∀ w, Calls Try.prog 58 #[.int .i64 ax, .int .i64 bx] w fun e w' => e = .returned (.int .i64 z2) ∧ w = w' := fun w => hz2 ▸ compare_any ax bx w
  clear hz1 hz2
  have H1 := Lib.hid c1
  have H2 := Lib.hid c2
  clear c1 c2
  go_enter Try.func44, Try.ntmps44
  go_wp2_with fail
  go_region_held3 (fun w' => w'.cell? ⟨W.heap.size, 0, none⟩ = some (.int .i64 ax) ∧ w'.cell? ⟨W.heap.size, 1, none⟩ = some (.int .i64 ay) ∧ w'.cell? ⟨W.heap.size + 1, 0, none⟩ = some (.int .i64 bx) ∧ w'.cell? ⟨W.heap.size + 1, 1, none⟩ = some (.int .i64 bY)) (simp [go_sem, World.cell?_alloc_past])
    (first
      | (go_at_call_of 58 (Value.int .i64 ay); refine (H1.out _).mono ?_; rintro e w' ⟨rfl, rfl⟩)
      | (go_at_call_of 58 (Value.int .i64 ax); refine (H2.out _).mono ?_; rintro e w' ⟨rfl, rfl⟩)
      | (go_at_call 57; refine (or_two _ z1 z2 _ (by simp [go_sem]) (by simp [go_sem])).mono ?_; rintro e w' ⟨rfl, rfl⟩))
  go_wp2
  go_ret
  exact ⟨rfl, 1, _, by rw [alloc_eq_grow, alloc_eq_grow, alloc_eq_grow, grow_grow, grow_grow]; rfl⟩
end Go.Proofs.Ytdbhddkkcchmmaa
