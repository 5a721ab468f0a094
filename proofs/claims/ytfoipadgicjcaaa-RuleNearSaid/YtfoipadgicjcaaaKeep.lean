/- The statements' own helpers: cells, same, alive. -/
import Derived.Test.YtfoipadgicjcaaaTidy
namespace Go.Proofs.Ytfoipadgicjcaaa
open Go.RowKit

/-- A copy in new memory. -/
def CopyPost (w : World) (n : Nat) (l : List (Int × Int)) (e : Ending) (w' : World) : Prop :=
  ∃ v', e = .returned v' ∧ Sl w' 62 2 v' n (flat l) ∧ (∀ b, sblk v' = some b → w.heap.size ≤ b) ∧ Below w.heap.size w w'

theorem nodup_le {t l : List (Int × Int)} (hn : t.Nodup) (hs : ∀ c ∈ t, c ∈ l) : t.length ≤ l.length := by
  induction t generalizing l with
  | nil => simp
  | cons a r ih =>
    rw [List.nodup_cons] at hn
    have ha := hs a (by simp)
    have h1 := ih (l := l.erase a) hn.2 (fun c hc => by
      rw [List.mem_erase_of_ne]
      · exact hs c (by simp [hc])
      · rintro rfl; exact hn.1 hc)
    rw [List.length_erase_of_mem ha] at h1
    have := List.length_pos_of_mem ha
    simp only [List.length_cons]
    omega
theorem tid_length {l t : List (Int × Int)} (h : Tid l t) : t.length ≤ l.length :=
  nodup_le (List.Pairwise.imp (R := ltC) (S := fun a b => a ≠ b) (fun {a b} hab e => ltC_irrefl a (by rw [← e] at hab; exact hab)) h.1) fun c hc => (h.2 c).1 hc

theorem tid_pair {l t : List (Int × Int)} (h : Tid l t) {q : Nat} (hq : q + 1 < t.length) : ltC t[q]! t[q + 1]! := by
  have e := List.pairwise_iff_getElem.1 h.1 q (q + 1) (by omega) hq (by omega)
  rw [List.getElem!_eq_getElem?_getD, List.getElem?_eq_getElem (by omega), List.getElem!_eq_getElem?_getD, List.getElem?_eq_getElem hq]
  exact e
theorem tid_mem {l t : List (Int × Int)} (h : Tid l t) (c : Int × Int) : c ∈ t ↔ c ∈ l := h.2 c


theorem fresh_of {w w1 w' : World} {v v' : Value} (hm : Mod (fun b => sblk v = some b) w1 w') (hd : sblk v' = sblk v ∨ sblk v' = some w1.heap.size ∧ w1.heap.size < w'.heap.size)
    (hb : Below w.heap.size w w1) (hv : ∀ b, sblk v = some b → w.heap.size ≤ b) : (∀ b, sblk v' = some b → w.heap.size ≤ b) ∧ Below w.heap.size w w' := by
  refine ⟨fun b hb' => ?_, hb.trans (hm.below hb.size fun b hlt he => ?_)⟩
  · rcases hd with e | ⟨e, _⟩
    · exact hv b (by rw [← e]; exact hb')
    · rw [e] at hb'; injection hb' with hb'; have := hb.size; omega
  · have := hv b he; omega

theorem cells_any (w : World) (B n : Nat) (v : Value) (l : List (Int × Int)) (h : Rd w B 2 v n (flat l)) (hn : n * 16 ≤ 140737488355328) :
    Calls Try.prog 29 #[v] w (CopyPost w n l) := by
  obtain ⟨A, cap, rfl, hc1, hc2⟩ := h.form
  have HR := Lib.hid h
  have HSL := Lib.hid (Sl.nil w 62 2)
  unfold maxLen at hc2
  clear h
  go_enter Try.func29, Try.ntmps29
  go_wp2_with (at_builtin; refine wpList_append_sl _ rfl (.const (.slice none 0 0)) (.tmp 3) 56 rfl 62 (.agg #[.int .i64 0, .int .i64 0]) 2 16 Try.underlying56 Try.info62 rfl (by decide) rfl HSL.out rfl HR.out flat_one (by omega) (by unfold maxLen; omega) ?_; intro v' w1 hs1 hm1 hd1)
  go_ret
  obtain ⟨f1, f2⟩ := fresh_of (w := w) (v := .slice none 0 0) hm1 hd1 (Below.refl _ _) (fun b hb => by simp [sblk] at hb)
  exact ⟨v', rfl, by simpa using hs1, f1, f2⟩

/-- Two lists that are one are the same. -/
def SamePost (w : World) (e : Ending) (w' : World) : Prop := e = .returned (.bool true) ∧ ∃ d, w' = w.drewN d

set_option maxHeartbeats 800000 in
theorem same_true (w : World) (B B' n : Nat) (va vb : Value) (l : List (Int × Int)) (ha : Rd w B 2 va n (flat l)) (hb : Rd w B' 2 vb n (flat l)) :
    Calls Try.prog 31 #[va, vb] w (SamePost w) := by
  obtain ⟨A, cap, rfl, hc1, hc2⟩ := ha.form
  obtain ⟨A', cap', rfl, hc1', hc2'⟩ := hb.form
  obtain ⟨_, hat⟩ := ha.pairs
  obtain ⟨_, hbt⟩ := hb.pairs
  have HA := Lib.hid hat
  have HB := Lib.hid hbt
  unfold maxLen at hc2 hc2'
  clear ha hb hat hbt
  go_enter Try.func31, Try.ntmps31
  go_wp2
  go_loopw [5] (fun iv wx => ∃ (k d : Nat), k ≤ n ∧ iv = .int .i64 k ∧ wx = w.drewN d) (fun iv _ => n - (intOf iv).toNat)
  case atStart => exact ⟨0, 0, Nat.zero_le _, rfl, rfl⟩
  case round =>
    obtain ⟨k, d, hk, rfl, rfl⟩ := hrel
    by_cases hlt : k < n
    · obtain ⟨b, off, cp, he, _, _, hb1, hcs⟩ := HA.out (by omega)
      injection he with he1 he2 he3
      subst he1 he3
      obtain ⟨c1, c2⟩ := hcs k hlt
      obtain ⟨b', off', cp', he', _, _, hb1', hcs'⟩ := HB.out (by omega)
      injection he' with he1' he2' he3'
      subst he1' he3'
      obtain ⟨c1', c2'⟩ := hcs' k hlt
      generalize l[k]! = c at c1 c2 c1' c2'
      have hq : ∀ w, _ := fun w => run_neC c c w
      rw [(eqC_true _ _).2 rfl] at hq
      clear hcs hcs'
      go_wp2_with fail
      go_quiet (fail)
      go_wp2
      go_roundw
      case rel => exact ⟨k + 1, _, by omega, by go_num, rfl⟩
      case measure => simp [intOf]; omega
    · go_wp2
      go_ret
      exact ⟨rfl, d, rfl⟩

theorem tid_literal : Tid [(2, 0), (1, 0), (2, 0)] [(1, 0), (2, 0)] := by
  refine ⟨by simp [ltC], fun c => ?_⟩
  simp only [List.mem_cons, List.not_mem_nil, or_false]
  constructor
  · rintro (h | h)
    · exact .inr (.inl h)
    · exact .inl h
  · rintro (h | h | h)
    · exact .inr h
    · exact .inl h
    · exact .inr h

theorem fresh_cells (w : World) (l : List (Int × Int)) (n : Nat) (hl : l.length = n) (hn : n ≤ maxLen) :
    Rd (w.alloc (.cells (flat l).toArray 62)) (w.heap.size + 1) 2 (.slice (some ⟨w.heap.size, 0, none⟩) n n) n (flat l) := by
  have := Rd.fresh w 62 (flat l).toArray 2 n (by simp [flat_length, hl]) hn
  simpa using this

set_option maxHeartbeats 800000 in
theorem alive_true (w : World) : Calls Try.prog 30 #[] w fun e w' => e = .returned (.bool true) ∧ Below w.heap.size w w' := by
  have hr := fresh_cells w [(2, 0), (1, 0), (2, 0)] 3 rfl (by unfold maxLen; omega)
  have HR : Hid (Rd (w.alloc (.cells #[.int .i64 2, .int .i64 0, .int .i64 1, .int .i64 0, .int .i64 2, .int .i64 0] 62)) (w.heap.size + 1) 2 (.slice (some ⟨w.heap.size, 0, none⟩) 3 3) 3 (flat [(2, 0), (1, 0), (2, 0)])) := hr
  have hbl := Lib.hid ((Below.refl w.heap.size w).alloc (Nat.le_refl _) (.cells #[.int .i64 2, .int .i64 0, .int .i64 1, .int .i64 0, .int .i64 2, .int .i64 0] 62))
  clear hr
  go_enter Try.func30, Try.ntmps30
  go_wp2_with fail
  (with_reducible refine (tidy_ok _ (w.heap.size + 1) 3 _ [(2, 0), (1, 0), (2, 0)] HR.out (by simp) (by omega) (by intro c hc; simp at hc; rcases hc with rfl | rfl | rfl <;> (unfold okC okZ; decide))).mono ?_)
  rintro e w1 ⟨A1, m1, t1, rfl, ht1, hs1, hf1, hb1⟩
  have htt := ht1.unique tid_literal
  subst htt
  have hm1 : m1 = 2 := by have := hs1.1; rw [flat_length] at this; simp at this; omega
  subst hm1
  have hrd1 := (hs1.alloc (.cells #[.int .i64 1, .int .i64 0, .int .i64 2, .int .i64 0] 62)).rd
  have hrd2 := fresh_cells w1 [(1, 0), (2, 0)] 2 rfl (by unfold maxLen; omega)
  have HR1 := Lib.hid hrd1
  have HR2 : Hid (Rd (w1.alloc (.cells #[.int .i64 1, .int .i64 0, .int .i64 2, .int .i64 0] 62)) (w1.heap.size + 1) 2 (.slice (some ⟨w1.heap.size, 0, none⟩) 2 2) 2 (flat [(1, 0), (2, 0)])) := hrd2
  have HB1 : Hid (Below w.heap.size w w1) := hbl.out.trans (hb1.mono (by simp))
  clear hrd1 hrd2 hs1 hf1 hb1 ht1
  go_wp2_with fail
  (with_reducible refine (same_true _ _ _ 2 _ _ [(1, 0), (2, 0)] HR1.out HR2.out).mono ?_)
  rintro e w2 ⟨rfl, d, rfl⟩
  go_wp2
  go_ret
  have hz := HB1.out.alloc HB1.out.size (.cells #[.int .i64 1, .int .i64 0, .int .i64 2, .int .i64 0] 62)
  exact ⟨rfl, ⟨hz.os, hz.tape, hz.output, hz.size, hz.block⟩⟩
end Go.Proofs.Ytfoipadgicjcaaa
