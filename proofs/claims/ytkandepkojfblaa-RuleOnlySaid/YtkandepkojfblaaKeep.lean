/- The statements' own helper same; lists in order. -/
import Derived.Test.YtkandepkojfblaaTidy
namespace Go.Proofs.Ytkandepkojfblaa
open Go.RowKit

theorem nodup_le {t l : List (Int × Int)} (hn : t.Nodup) (hs : ∀ c ∈ t, c ∈ l) : t.length ≤ l.length := by
  induction t generalizing l with
  | nil => simp
  | cons a r ih =>
    rw [List.nodup_cons] at hn
    have ha := hs a (by simp)
    have h1 := ih (l := l.erase a) hn.2 (fun c hc => by
      rw [List.mem_erase_of_ne]
      · exact hs c (by simp [hc])
      · rintro rfl; exact hn.1 hc)
    rw [List.length_erase_of_mem ha] at h1
    have := List.length_pos_of_mem ha
    simp only [List.length_cons]
    omega
theorem tid_length {l t : List (Int × Int)} (h : Tid l t) : t.length ≤ l.length :=
  nodup_le (List.Pairwise.imp (R := ltC) (S := fun a b => a ≠ b) (fun {a b} hab e => ltC_irrefl a (by rw [← e] at hab; exact hab)) h.1) fun c hc => (h.2 c).1 hc

theorem tid_pair {l t : List (Int × Int)} (h : Tid l t) {q : Nat} (hq : q + 1 < t.length) : ltC t[q]! t[q + 1]! := by
  have e := List.pairwise_iff_getElem.1 h.1 q (q + 1) (by omega) hq (by omega)
  rw [List.getElem!_eq_getElem?_getD, List.getElem?_eq_getElem (by omega), List.getElem!_eq_getElem?_getD, List.getElem?_eq_getElem hq]
  exact e
theorem tid_mem {l t : List (Int × Int)} (h : Tid l t) (c : Int × Int) : c ∈ t ↔ c ∈ l := h.2 c


theorem fresh_of {w w1 w' : World} {v v' : Value} (hm : Mod (fun b => sblk v = some b) w1 w') (hd : sblk v' = sblk v ∨ sblk v' = some w1.heap.size ∧ w1.heap.size < w'.heap.size)
    (hb : Below w.heap.size w w1) (hv : ∀ b, sblk v = some b → w.heap.size ≤ b) : (∀ b, sblk v' = some b → w.heap.size ≤ b) ∧ Below w.heap.size w w' := by
  refine ⟨fun b hb' => ?_, hb.trans (hm.below hb.size fun b hlt he => ?_)⟩
  · rcases hd with e | ⟨e, _⟩
    · exact hv b (by rw [← e]; exact hb')
    · rw [e] at hb'; injection hb' with hb'; have := hb.size; omega
  · have := hv b he; omega

/-- Two lists that are one are the same. -/
def SamePost (w : World) (e : Ending) (w' : World) : Prop := e = .returned (.bool true) ∧ ∃ d, w' = w.drewN d

set_option maxHeartbeats 800000 in
theorem same_true (w : World) (B B' n : Nat) (va vb : Value) (l : List (Int × Int)) (ha : Rd w B 2 va n (flat l)) (hb : Rd w B' 2 vb n (flat l)) :
    Calls Try.prog 11 #[va, vb] w (SamePost w) := by
  obtain ⟨A, cap, rfl, hc1, hc2⟩ := ha.form
  obtain ⟨A', cap', rfl, hc1', hc2'⟩ := hb.form
  obtain ⟨_, hat⟩ := ha.pairs
  obtain ⟨_, hbt⟩ := hb.pairs
  have HA := Lib.hid hat
  have HB := Lib.hid hbt
  unfold maxLen at hc2 hc2'
  clear ha hb hat hbt
  go_enter Try.func11, Try.ntmps11
  go_wp2
  go_loopw [5] (fun iv wx => ∃ (k d : Nat), k ≤ n ∧ iv = .int .i64 k ∧ wx = w.drewN d) (fun iv _ => n - (intOf iv).toNat)
  case atStart => exact ⟨0, 0, Nat.zero_le _, rfl, rfl⟩
  case round =>
    obtain ⟨k, d, hk, rfl, rfl⟩ := hrel
    by_cases hlt : k < n
    · obtain ⟨b, off, cp, he, _, _, hb1, hcs⟩ := HA.out (by omega)
      injection he with he1 he2 he3
      subst he1 he3
      obtain ⟨c1, c2⟩ := hcs k hlt
      obtain ⟨b', off', cp', he', _, _, hb1', hcs'⟩ := HB.out (by omega)
      injection he' with he1' he2' he3'
      subst he1' he3'
      obtain ⟨c1', c2'⟩ := hcs' k hlt
      generalize l[k]! = c at c1 c2 c1' c2'
      have hq : ∀ w, _ := fun w => run_neC c c w
      rw [(eqC_true _ _).2 rfl] at hq
      clear hcs hcs'
      go_wp2_with fail
      go_quiet (fail)
      go_wp2
      go_roundw
      case rel => exact ⟨k + 1, _, by omega, by go_num, rfl⟩
      case measure => simp [intOf]; omega
    · go_wp2
      go_ret
      exact ⟨rfl, d, rfl⟩

theorem fresh_cells (w : World) (l : List (Int × Int)) (n : Nat) (hl : l.length = n) (hn : n ≤ maxLen) :
    Rd (w.alloc (.cells (flat l).toArray 41)) (w.heap.size + 1) 2 (.slice (some ⟨w.heap.size, 0, none⟩) n n) n (flat l) := by
  have := Rd.fresh w 41 (flat l).toArray 2 n (by simp [flat_length, hl]) hn
  simpa using this

end Go.Proofs.Ytkandepkojfblaa
