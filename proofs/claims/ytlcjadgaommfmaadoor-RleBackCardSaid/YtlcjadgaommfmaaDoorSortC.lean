/- slices.Clone, slices.SortFunc (by the shelf's contract), slices.Clip at []api.Cell. -/
import Derived.Test.YtlcjadgaommfmaaDoorRowC
import Derived.Test.YtlcjadgaommfmaaDoorCmp
import Derived.Test.YtlcjadgaommfmaaDoorAppW
import Derived.Test.YtlcjadgaommfmaaDoorSortLaid
import Derived.Test.YtlcjadgaommfmaaDoorCompact
namespace Go.Proofs.YtlcjadgaommfmaaDoor
open Go.RowKit Go.Shelf Go.Sort Go.Lib

def encC (x : Int × Int) : List Value := [.int .i64 x.1, .int .i64 x.2]

theorem sortWorld_heap (w : World) (blk off m : Nat) (d : Array (Int × Int)) (os : Array Obj) :
    (sortWorldK encC 2 w blk off m d os).heap = (w.heap.modify blk (onCells (putCells id off (flatK encC 2 d)))) ++ os := rfl

theorem rowC_sort {w : World} {t blk off m : Nat} {d d' : Array (Int × Int)} {os : Array Obj} (h : RowC w t blk off d.size (fun i => d[i]!)) (hs : d'.size = d.size) :
    RowC (sortWorldK encC 2 w blk off m d' os) t blk off d.size (fun i => d'[i]!) ∧ Mod (fun k => k = blk) w (sortWorldK encC 2 w blk off m d' os) := by
  obtain ⟨cs, h1, h2, h3⟩ := h
  have hlt := h1.lt
  unfold Blk at h1
  have hsz : (w.heap.modify blk (onCells (putCells id off (flatK encC 2 d')))).size = w.heap.size := by simp
  constructor
  · refine ⟨putCells id off (flatK encC 2 d') cs, ?_, by unfold putCells; simpa using h2, fun i hi => ?_⟩
    · unfold Blk
      rw [sortWorld_heap, Array.getElem?_append, if_pos (by rw [hsz]; exact hlt), Array.getElem?_modify, if_pos rfl, h1]
      rfl
    · have key : ∀ j, j < 2 → (putCells id off (flatK encC 2 d') cs)[off + i * 2 + j]? = some (encC d'[i]!)[j]! := by
        intro j hj
        have hlt2 : off + i * 2 + j < cs.size := by omega
        unfold putCells
        rw [Array.getElem?_mapIdx, Array.getElem?_eq_getElem hlt2]
        simp only [Option.map_some, size_flatK, id]
        rw [if_pos (by omega), get_flatK encC 2 d' _ (by omega)]
        rw [show (off + i * 2 + j - off) / 2 = i by omega, show (off + i * 2 + j - off) % 2 = j by omega]
      exact ⟨by have := key 0 (by omega); simpa [encC] using this, by have := key 1 (by omega); simpa [encC] using this⟩
  · refine ⟨rfl, rfl, rfl, ?_, fun k hk hne => ?_⟩
    · rw [sortWorld_heap, Array.size_append, hsz]; omega
    · rw [sortWorld_heap, Array.getElem?_append, if_pos (by rw [hsz]; exact hk), Array.getElem?_modify, if_neg (by omega)]

theorem holds_rowC {w : World} {t blk off : Nat} {d : Array (Int × Int)} (h : RowC w t blk off d.size (fun i => d[i]!)) : HoldsK encC 2 w blk off d := by
  intro j hj
  rw [size_flatK] at hj
  refine ⟨?_, h.frozen _⟩
  rw [get_flatK encC 2 d j hj]
  rcases (show j = j / 2 * 2 ∨ j = j / 2 * 2 + 1 by omega) with e | e
  · have := h.cell1 (i := j / 2) (by omega)
    rw [← e] at this
    rw [this, show j % 2 = 0 by omega]; rfl
  · have := h.cell2 (i := j / 2) (by omega)
    rw [Nat.add_assoc, ← e] at this
    rw [this, show j % 2 = 1 by omega]; rfl

theorem ltOf_true (a b : Int × Int) : ltOf ordZ a b = true ↔ ltC a b := by unfold ltOf; rw [decide_eq_true_eq]; exact ordZ_neg a b
theorem ltOf_false (a b : Int × Int) : ltOf ordZ a b = false ↔ ¬ ltC a b := by rw [← ltOf_true]; simp
theorem swoC : SWO (ltOf ordZ) where
  irrefl x := by rw [ltOf_false]; simp [ltC]
  trans x y z h1 h2 := by rw [ltOf_true] at *; unfold ltC at *; omega
  ntrans x y z h1 h2 := by rw [ltOf_false] at *; unfold ltC at *; omega

/-- What the sort leaves. -/
def SortPost (w : World) (b off n : Nat) (F : Nat → Int × Int) (e : Ending) (w' : World) : Prop :=
  e = .returned (.tuple #[]) ∧ ∃ F', ((List.range n).map F').Perm ((List.range n).map F) ∧ (∀ i j, i < j → j < n → ¬ ltC (F' j) (F' i)) ∧ RowC w' 50 b off n F' ∧ Mod (fun k => k = b) w w'

theorem sort_any (w : World) (b off n cap : Nat) (F : Nat → Int × Int) (h : RowC w 50 b off n F) (hn : n < 4611686018427387904) :
    Calls Tryd.prog 28 #[.slice (some ⟨b, off, none⟩) n cap, .func (.func 29) #[] #[]] w (SortPost w b off n F) := by
  have eg : ∀ args w, (callFunc 29 args).run Tryd.prog w = .ok (.enter 29 args) w := enters_of Tryd.func29 (by kernel_rfl) rfl
  obtain ⟨d, hd⟩ : ∃ d, d = ((List.range n).map F).toArray := ⟨_, rfl⟩
  have hds : d.size = n := by rw [hd]; simp
  have hdF : ∀ i, i < n → d[i]! = F i := by
    intro i hi; rw [hd, getElem!_pos _ i (by simpa using hi)]; simp
  have hrow : RowC w 50 b off d.size (fun i => d[i]!) := by rw [hds]; exact h.congr fun i hi => (hdF i hi).symm
  have hcon := AnyQ.slices_SortFunc Tryd.sortCell 2 Tryd.isAgg50 Tryd.sizeOf50 encC (fun _ => rfl) (fun x v hv => by simp [encC] at hv; rcases hv with rfl | rfl <;> rfl) ordZ swoC 29 #[] b off cap d w eg
    (fun _ _ _ _ x y => order_any x y _) (holds_rowC hrow) h.lt (by omega)
  change Calls Tryd.prog 28 _ _ _ at hcon
  rw [hds] at hcon
  refine hcon.mono ?_
  rintro e w' ⟨rfl, d', m, os, hp, hst, rfl⟩
  refine ⟨rfl, fun i => d'[i]!, ?_, ?_, ?_⟩
  · obtain ⟨p1, _, p3⟩ := hp
    have e1 : (d'.extract 0 n).toList = (List.range n).map fun i => d'[i]! := by
      apply List.ext_getElem
      · simp; omega
      · intro i a1 a2
        simp at a2
        simp [getElem!_pos d' i (by omega)]
    have e2 : (d.extract 0 n).toList = (List.range n).map F := by
      rw [hd]; simp
      apply List.take_of_length_le; simp
    rw [e1, e2] at p3
    exact p3
  · intro i j hij hj hlt
    have := hst i j (Nat.zero_le _) hij hj
    exact (ltOf_false _ _).1 this hlt
  · have := rowC_sort (m := m) (os := os) hrow (hp.1)
    rw [hds] at this
    exact this

theorem ins_none (w : World) (A : Option Addr) (cap : Nat) (fv : Value) :
    Calls Tryd.prog 52 #[.slice A 0 cap, .int .i64 0, .int .i64 0, fv] w fun e w' => e = .returned (.tuple #[]) ∧ w = w' := by
  go_enter Tryd.func52, Tryd.ntmps52
  go_wp2
  refine wp_loop_rounds 1 ?_
  rw [rounds_succ]
  go_wp2
  go_end0
  exact ⟨rfl, rfl⟩
set_option maxRecDepth 100000 in
theorem pdq_none (w : World) (A : Option Addr) (cap : Nat) (lim : Int) (fv : Value) :
    Calls Tryd.prog 42 #[.slice A 0 cap, .int .i64 0, .int .i64 0, .int .i64 lim, fv] w fun e w' => e = .returned (.tuple #[]) ∧ w = w' := by
  go_enter Tryd.func42, Tryd.ntmps42
  go_wp2
  refine wp_loop_rounds 1 ?_
  rw [rounds_succ]
  go_wp2_with (go_at_call 52; refine (ins_none _ _ _ _).mono ?_; rintro e w' ⟨rfl, rfl⟩)
  (try simp only [Exit.inBlock, Exit.then]); refine bodyPost_ret (results_none rfl _ _ _) rfl ?_
  exact ⟨rfl, rfl⟩
theorem len64_zero (w : World) : Calls Tryd.prog 61 #[.int .u64 0] w fun e w' => (∃ l, e = .returned (.int .i64 l)) ∧ w = w' := by
  go_enter Tryd.func61, Tryd.ntmps61
  go_wp2
  go_ret
  exact ⟨⟨_, rfl⟩, rfl⟩
theorem len_zero (w : World) : Calls Tryd.prog 43 #[.int .u64 0] w fun e w' => (∃ l, e = .returned (.int .i64 l)) ∧ w = w' := by
  go_enter Tryd.func43, Tryd.ntmps43
  go_wp2_with (go_at_call 61; refine (len64_zero _).mono ?_; rintro e w' ⟨⟨l, rfl⟩, rfl⟩)
  go_ret
  exact ⟨⟨_, rfl⟩, rfl⟩
theorem sort_none (w : World) (A : Option Addr) (cap : Nat) (fv : Value) :
    Calls Tryd.prog 28 #[.slice A 0 cap, fv] w fun e w' => e = .returned (.tuple #[]) ∧ w = w' := by
  go_enter Tryd.func28, Tryd.ntmps28
  go_wp2_with (first
    | (go_at_call 43; refine (len_zero _).mono ?_; rintro e w' ⟨⟨l, rfl⟩, rfl⟩)
    | (go_at_call 42; refine (pdq_none _ _ _ _ _).mono ?_; rintro e w' ⟨rfl, rfl⟩))
  go_end0
  exact ⟨rfl, rfl⟩

/-- slices.Clone. -/
theorem clone_any (w : World) (B n : Nat) (v : Value) (l : List (Int × Int)) (h : Rd w B 2 v n (flat l)) (hB : B ≤ w.heap.size) (hn : n * 16 ≤ 140737488355328) :
    Calls Tryd.prog 27 #[v] w fun e w' => ∃ v', e = .returned v' ∧ Sl w' 50 2 v' n (flat l) ∧ (∀ b, sblk v' = some b → w.heap.size ≤ b) ∧ Below w.heap.size w w' := by
  obtain ⟨A, cap, rfl, hc1, hc2⟩ := h.form
  have q22 : ∀ (w : World) (a : Option Addr) (n c n' c' : Nat), (binOp .eql 22 (.slice a n c) (.slice none n' c')).run Tryd.prog w = .ok (.bool a.isNone) w := fun w a n c n' c' => Lib.run_eql_slice_nil w _ _ a n c n' c' Tryd.underlying22
  cases A with
  | none =>
    have hn0 : n = 0 := by
      rcases Nat.eq_zero_or_pos n with e | e
      · exact e
      · obtain ⟨b, off, cap', he, _⟩ := h.at e; cases he
    subst hn0
    have hl : flat l = [] := List.eq_nil_of_length_eq_zero (by simpa using h.1)
    rw [hl]
    clear hl h
    go_enter Tryd.func27, Tryd.ntmps27
    go_wp2
    go_ret
    exact ⟨_, rfl, Sl.nil _ _ _, fun b hb => by simp [sblk] at hb, Below.refl _ _⟩
  | some ad =>
    have hr : Rd (w.alloc (.cells #[] 50)) B 2 (.slice (some ad) n cap) n (flat l) := h.keep fun b hb => Below.heap_alloc w _ b (by omega)
    have hsl : Sl (w.alloc (.cells #[] 50)) 50 2 (.slice (some ⟨w.heap.size, 0, none⟩) 0 0) 0 [] :=
      ⟨rfl, _, _, rfl, Nat.le_refl _, Nat.zero_le _, (fun h => nomatch h), fun a ha => by injection ha with ha; subst ha; exact ⟨#[], rfl, Blk.new _ _ _, by simp, rfl⟩⟩
    have HR := Lib.hid hr
    have HSL := Lib.hid hsl
    unfold maxLen at hc2
    clear h hr hsl
    go_enter Tryd.func27, Tryd.ntmps27
    go_wp2_with (at_builtin; refine wpList_append_sl _ rfl (.tmp 5) (.tmp 6) 22 rfl 50 (.agg #[.int .i64 0, .int .i64 0]) 2 16 Tryd.underlying22 Tryd.info50 rfl (by decide) rfl HSL.out rfl HR.out flat_one (by omega) (by unfold maxLen; omega) ?_; intro v' w1 hs1 hm1 hd1)
    go_ret
    refine ⟨v', rfl, by simpa using hs1, fun b hb => ?_, ?_⟩
    · rcases hd1 with e | ⟨e, _⟩
      · rw [e] at hb; have hb' : some w.heap.size = some b := hb; injection hb' with hb'; omega
      · rw [e] at hb; simp at hb; omega
    · exact ((Below.refl _ w).alloc (Nat.le_refl _) _).trans (hm1.below (by simp) (fun b hb he => by have he' : some w.heap.size = some b := he; injection he' with he'; omega))

theorem clip_any (w : World) (A : Option Addr) (n cap : Nat) (h : n ≤ cap) (_hm : cap ≤ maxLen) :
    Calls Tryd.prog 30 #[.slice A n cap] w fun e w' => e = .returned (.slice A n n) ∧ w = w' := by
  unfold maxLen at _hm
  go_enter Tryd.func30, Tryd.ntmps30
  go_wp2
  go_ret
  exact ⟨rfl, rfl⟩
end Go.Proofs.YtlcjadgaommfmaaDoor
