/- What waits, by tenant: turns.New, Push, Pop. -/
import Derived.Test.YtfoipadgicjcaaaRows
import Derived.Test.YtfoipadgicjcaaaAppW
import Derived.Handy
import Derived.BigQuiet
import Derived.Deep.QuietTactic
import Derived.Deep.RegionHeld3
namespace Go.Proofs.Ytfoipadgicjcaaa
open Go.RowKit

/-- A block of the call's own (from B on) of one of these types. -/
def Own (B : Nat) (ts : List Nat) (w : World) (b : Nat) : Prop := B ≤ b ∧ ∃ t ∈ ts, ∃ cs, Blk w b t cs

def turnTypes : List Nat := [84, 85, 9]

def upd {α : Type} (f : Nat → α) (i : Nat) (x : α) : Nat → α := fun j => if j = i then x else f j

structure TurnsIn (w : World) (B T n nx : Nat) (q : Nat → List ByteArray) (W : Nat) (vs : Nat → Value) : Prop where
  hn : 0 < n
  hn' : n ≤ 64
  hx : nx < n
  hB : B ≤ T ∧ B ≤ W
  blk : Blk w T 84 #[.slice (some ⟨W, 0, none⟩) n n, .int .i64 nx]
  row : w.rowIs W 85 n vs
  sl : ∀ k, k < n → Sl w 9 1 (vs k) (q k).length ((q k).map .string)
  own : ∀ k, k < n → ∀ b, sblk (vs k) = some b → B ≤ b
  apart : ∀ j k, j < n → k < n → j ≠ k → ∀ b, sblk (vs j) = some b → sblk (vs k) ≠ some b

def TurnsAt (w : World) (B T n nx : Nat) (q : Nat → List ByteArray) : Prop := ∃ W vs, TurnsIn w B T n nx q W vs

theorem rowIs_blk {w : World} {b t n : Nat} {f : Nat → Value} (h : w.rowIs b t n f) : ∃ cs, Blk w b t cs := by
  obtain ⟨cs, h1, _⟩ := h; exact ⟨cs, h1⟩

theorem Try.info9 : (Try.prog.info? 9).map (fun i => (i.zero, i.size, i.bytes)) = some (some (.string ⟨#[]⟩), 1, 16) := by kernel_rfl

set_option maxHeartbeats 400000 in
theorem push_full (w : World) (B T n nx : Nat) (q : Nat → List ByteArray) (k : Nat) (s : ByteArray) (h : TurnsAt w B T n nx q) (hk : k < n) (hf : 8 ≤ (q k).length) :
    Calls Try.prog 14 #[.pointer (some ⟨T, 0, none⟩), .int .i64 k, .string s] w fun e w' => e = .returned (.int .i64 5) ∧ w = w' := by
  obtain ⟨W, vs, h⟩ := h
  have c0 := h.blk.cellS (i := 0) rfl
  have c1 := h.row.cell hk
  obtain ⟨A, cap, hv, hc1, hc2⟩ := (h.sl k hk).form
  have hn' := h.hn'
  rw [hv] at c1
  have hb := h.hB
  unfold maxLen at hc2
  generalize (q k).length = L at hf hc1 c1
  clear hv hb
  go_enter Try.func14, Try.ntmps14
  go_wp2
  go_ret
  exact ⟨rfl, rfl⟩

theorem push_fin {w w0 w1 : World} {B T n nx : Nat} {q : Nat → List ByteArray} {W : Nat} {vs : Nat → Value} {k : Nat} {s : ByteArray} {v' : Value} (h : TurnsIn w B T n nx q W vs) (hk : k < n)
    (hB : B ≤ w.heap.size) (hm0 : Mod (fun _ => False) w w0)
    (hs1 : Sl w1 9 1 v' ((q k).length + 1) ((q k).map .string ++ [.string s])) (hm1 : Mod (fun b => sblk (vs k) = some b) w0 w1) (hd1 : sblk v' = sblk (vs k) ∨ sblk v' = some w0.heap.size ∧ w0.heap.size < w1.heap.size) :
    TurnsAt (w1.setCell ⟨W, k, none⟩ v') B T n nx (upd q k (q k ++ [s])) ∧ Mod (Own B turnTypes w) w (w1.setCell ⟨W, k, none⟩ v') := by
  have hm : Mod (fun b => sblk (vs k) = some b) w w1 := (hm0.mono (fun _ _ h => h.elim)).trans hm1 (fun _ _ h => h)
  have hWb := rowIs_blk h.row
  obtain ⟨csW, hWb⟩ := hWb
  have hslk := h.sl k hk
  have hWk : sblk (vs k) ≠ some W := hslk.ne hWb (by decide)
  have hTk : sblk (vs k) ≠ some T := hslk.ne h.blk (by decide)
  have hTW : T ≠ W := h.blk.ne hWb (by decide)
  have hW1 : Blk w1 W _ csW := hWb.mod hm hWk
  have hT1 : Blk w1 T _ _ := h.blk.mod hm hTk
  have hrow1 : w1.rowIs W 85 n vs := h.row.of_block (hm.block W hWb.lt hWk)
  have hv'W : sblk v' ≠ some W := hs1.ne hW1 (by decide)
  have hv'B : ∀ b, sblk v' = some b → B ≤ b := by
    intro b hb
    rcases hd1 with e | ⟨e, _⟩
    · exact h.own k hk b (by rw [← e]; exact hb)
    · rw [e] at hb; injection hb with hb; have := hm0.size; omega
  have hv'f : ∀ b, sblk v' = some b → b < w.heap.size → sblk (vs k) = some b := by
    intro b hb hlt
    rcases hd1 with e | ⟨e, _⟩
    · rw [← e]; exact hb
    · rw [e] at hb; injection hb with hb; have := hm0.size; omega
  refine ⟨⟨W, upd vs k v', ⟨h.hn, h.hn', h.hx, h.hB, hT1.far hTW _, ?_, ?_, ?_, ?_⟩⟩, ?_⟩
  · have := hrow1.set k v'
    exact this.congr fun i _ => by simp only [upd]
  · intro j hj
    by_cases e : j = k
    · subst e; simp only [upd, if_true, List.length_append, List.map_append, List.length_singleton, List.map_cons, List.map_nil]
      exact hs1.far (p := ⟨W, j, none⟩) hv'W v'
    · simp only [upd, if_neg e]
      have hj' := h.sl j hj
      have h1 : Sl w1 9 1 (vs j) (q j).length ((q j).map .string) := hj'.mod hm (fun b hb => h.apart j k hj hk e b hb)
      exact h1.far (p := ⟨W, k, none⟩) (h1.ne hW1 (by decide)) v'
  · intro j hj b hb
    by_cases e : j = k
    · subst e; simp only [upd, if_true] at hb; exact hv'B b hb
    · simp only [upd, if_neg e] at hb; exact h.own j hj b hb
  · intro i j hi hj hij b hb
    by_cases e : i = k
    · subst e
      simp only [upd, if_true, if_neg (Ne.symm hij)] at hb ⊢
      intro hb2
      exact h.apart j i hj hi (Ne.symm hij) b hb2 (hv'f b hb ((h.sl j hj).lt hb2).1)
    · by_cases e2 : j = k
      · subst e2
        simp only [upd, if_true, if_neg hij] at hb ⊢
        intro hb2
        exact h.apart i j hi hj hij b hb (hv'f b hb2 ((h.sl i hi).lt hb).1)
      · simp only [upd, if_neg e, if_neg e2] at hb ⊢
        exact h.apart i j hi hj hij b hb
  · refine (hm.mono fun b hb e => ?_).set (fun _ => ⟨h.hB.2, _, ?_, _, hWb⟩) v'
    · obtain ⟨_, cs, hcs⟩ := hslk.lt e
      exact ⟨h.own k hk b e, _, by simp [turnTypes], cs, hcs⟩
    · simp [turnTypes]

set_option maxHeartbeats 800000 in
theorem push_ok (w : World) (B T n nx : Nat) (q : Nat → List ByteArray) (k : Nat) (s : ByteArray) (h : TurnsAt w B T n nx q) (hk : k < n) (hf : (q k).length < 8) :
    Calls Try.prog 14 #[.pointer (some ⟨T, 0, none⟩), .int .i64 k, .string s] w fun e w' => e = .returned (.int .i64 0) ∧
      TurnsAt w' B T n nx (upd q k (q k ++ [s])) ∧ Mod (Own B turnTypes w) w w' := by
  obtain ⟨W, vs, h⟩ := h
  have c0 := h.blk.cellS (i := 0) rfl
  have c1 := h.row.cell hk
  have f1 := h.row.frozen k
  have hsl := h.sl k hk
  obtain ⟨A, cap, hv, hc1, hc2⟩ := hsl.form
  have hn' := h.hn'
  rw [hv] at c1
  have hb := h.hB
  unfold maxLen at hc2
  have hWk : sblk (vs k) ≠ some W := by
    obtain ⟨cs, hc⟩ := rowIs_blk h.row
    exact hsl.ne hc (by decide)
  have hWs : W < w.heap.size := h.row.lt
  have hsl2 : Sl ((w.alloc (.cells #[.string s] 9)).drew) 9 1 (.slice A (q k).length cap) (q k).length ((q k).map .string) := hv ▸ hsl.alloc _
  have hrd : Rd ((w.alloc (.cells #[.string s] 9)).drew) (w.heap.size + 1) 1 (.slice (some ⟨w.heap.size, 0, none⟩) 1 1) 1 [.string s] :=
    Rd.fresh w _ #[.string s] 1 1 rfl (by unfold maxLen; omega)
  have hTb := h.blk.lt
  have hTk : sblk (vs k) ≠ some T := hsl.ne h.blk (by decide)
  have FIN := Lib.hid (fun (w1 : World) (v' : Value) => push_fin (w := w) (w0 := (w.alloc (.cells #[.string s] 9)).drew) (w1 := w1) (k := k) (s := s) (v' := v') h hk (by have := h.blk.lt; have := h.hB; omega) ((Mod.refl _ w).alloc _).drew)
  rw [hv] at FIN
  have hst : ∀ w1, Mod (fun b => sblk (.slice A (q k).length cap) = some b) ((w.alloc (.cells #[.string s] 9)).drew) w1 →
      w1.cell? ⟨T, 0, none⟩ = some (.slice (some ⟨W, 0, none⟩) n n) ∧ w1.cell? ⟨W, k, none⟩ = some (.slice A (q k).length cap) ∧ w1.frozen? ⟨W, k, none⟩ = false := by
    intro w1 hm
    rw [← hv] at hm
    have e := hm.block W (by simp; omega) hWk
    have e2 : ((w.alloc (.cells #[.string s] 9)).drew).heap[W]? = w.heap[W]? := Below.heap_alloc w _ W hWs
    have e3 := hm.block T (by simp; omega) hTk
    have e4 : ((w.alloc (.cells #[.string s] 9)).drew).heap[T]? = w.heap[T]? := Below.heap_alloc w _ T hTb
    exact ⟨(World.cell?_of_block (a := ⟨T, 0, none⟩) (e3.trans e4)).trans c0, (World.cell?_of_block (a := ⟨W, k, none⟩) (e.trans e2)).trans c1, (World.frozen?_of_block (a := ⟨W, k, none⟩) (e.trans e2)).trans f1⟩
  have HV := Lib.hid hv
  generalize hL : (q k).length = L at hf hc1 c1 hsl2 hst FIN
  have HL := Lib.hid hL
  clear hv hb hL hsl hWk hTk
  have HST := Lib.hid hst; clear hst
  have c0' : w.cell? ⟨T, 0, none⟩ = some (.slice (some ⟨W, 0, none⟩) n n) := c0
  clear c0
  go_enter Try.func14, Try.ntmps14
  go_wp2
  have c0a : (w.alloc (.cells #[.string s] 9)).cell? ⟨T, 0, none⟩ = some (.slice (some ⟨W, 0, none⟩) n n) := (World.cell?_alloc_lt w _ ⟨T, 0, none⟩ hTb).trans c0'
  have c1a : (w.alloc (.cells #[.string s] 9)).cell? ⟨W, k, none⟩ = some (.slice A L cap) := (World.cell?_alloc_lt w _ ⟨W, k, none⟩ hWs).trans c1
  go_region_law
    ((refine step_append_sl _ rfl (.tmp 40) (.tmp 42) 85 rfl 9 (.string ⟨#[]⟩) 1 16 Try.underlying85 Try.info9 rfl (by decide) rfl hsl2 rfl hrd (by simp [Value.oneCell']) (by omega) (by unfold maxLen; omega) ?_; intro v' w1 hs1 hm1 hd1; obtain ⟨d0, d1, d2⟩ := HST.out w1 hm1; obtain ⟨A', cap', rfl, g1, g2⟩ := hs1.form))
  all_goals go_wp2
  all_goals go_ret
  all_goals (refine ⟨rfl, ?_⟩; exact FIN.out _ _ hs1 hm1 hd1)
end Go.Proofs.Ytfoipadgicjcaaa
