/- speech: the reader of words. -/
import Derived.Test.YtkandepkojfblaaDoorSpKeyed
import Derived.Test.YtkandepkojfblaaDoorApp
namespace Go.Proofs.YtkandepkojfblaaDoor
open Go.RowKit

/-- Texts as values. -/
def strW (l : List (List UInt8)) : List Value := l.map fun s => .string (str s)
/-- The reader's block: the words that are left, and whether something was bad. -/
structure Wd (w : World) (rb : Nat) (ws : List (List UInt8)) (bad : Bool) : Prop where
  at_ : ∃ v B, Blk w rb 62 #[v, .bool bad] ∧ Rd w B 1 v ws.length (strW ws) ∧ B ≤ rb
  lt : rb < w.heap.size
theorem rd_tail {w : World} {B : Nat} {b off cap : Nat} {a : List UInt8} {r : List (List UInt8)} (h : Rd w B 1 (.slice (some ⟨b, off, none⟩) (a :: r).length cap) (a :: r).length (strW (a :: r))) {A : Option Addr} (hA : 0 < r.length → A = some ⟨b, off + 1, none⟩) : Rd w B 1 (.slice A r.length (cap - 1)) r.length (strW r) := by
  obtain ⟨b', off', cap', he, h1, h2, h3, h4⟩ := h.at (Nat.succ_pos _)
  injection he with he1 _ he2
  injection he1 with he1
  injection he1 with e1 e2 _
  subst e1 e2 he2
  rw [List.length_cons] at h1
  refine ⟨by simp [strW], A, cap - 1, rfl, by omega, by omega, fun hn => ⟨b, off + 1, hA hn, h3, fun j u hj => ?_⟩⟩
  have := h4 (j + 1) u (by simpa [strW] using hj)
  rw [show off + 1 + j = off + (j + 1) by omega]; exact this
def WordPost (w : World) (rb : Nat) (ws : List (List UInt8)) (bad : Bool) (e : Ending) (w' : World) : Prop :=
  e = .returned (.string (str (ws.headD []))) ∧ Wd w' rb ws.tail (bad || ws.isEmpty) ∧ Mod (fun b => b = rb) w w'

set_option maxRecDepth 100000 in
set_option maxHeartbeats 3200000 in
theorem word_any (w : World) (rb : Nat) (ws : List (List UInt8)) (bad : Bool) (h : Wd w rb ws bad) :
    Calls Tryd.prog 23 #[.pointer (some ⟨rb, 0, none⟩)] w (WordPost w rb ws bad) := by
  obtain ⟨⟨v, B, hb, hr, hB⟩, hlt⟩ := h
  cases ws with
  | nil =>
    obtain ⟨_, A, cap, rfl, h1, h2, _⟩ := hr
    have c0 := hb.cellS (i := 0) rfl
    have c1 := hb.cellS (i := 1) rfl
    have k1 := hb.frozen 1
    have HR : Hid (Rd w B 1 (.slice A ([] : List (List UInt8)).length cap) 0 (strW [])) := ⟨rfl, A, cap, rfl, h1, h2, fun h => absurd h (Nat.lt_irrefl 0)⟩
    have HB := Lib.hid hb
    have HBB := Lib.hid hB
    have HLT := Lib.hid hlt
    clear hb hB hlt h1 h2
    go_enter Tryd.func23, Tryd.ntmps23
    go_wp2_with fail
    go_ret
    have hbt : (bad || ([] : List (List UInt8)).isEmpty) = true := by simp
    exact ⟨rfl, ⟨⟨_, B, by rw [hbt]; exact HB.out.set 1 (.bool true), HR.out.keep fun b hb => Below.heap_setCell _ _ _ _ (by have := HBB.out; show b ≠ rb; omega), HBB.out⟩, by rw [World.size_setCell]; exact HLT.out⟩, (Mod.refl (fun b => b = rb) w).set (p := ⟨rb, 1, none⟩) (fun _ => rfl) _⟩
  | cons a r =>
    obtain ⟨b, off, cap, rfl, h1, h2, h3, h4⟩ := hr.at (Nat.succ_pos _)
    have d0 : w.cell? ⟨b, off, none⟩ = some (.string (str a)) := h4 0 _ rfl
    have c0 := hb.cellS (i := 0) rfl
    have k0 := hb.frozen 0
    have HR := Lib.hid hr
    have HB := Lib.hid hb
    have HBB := Lib.hid hB
    have HLT := Lib.hid hlt
    rw [List.length_cons] at h1
    have hcap : (r.length : Int) + 1 ≤ cap := by omega
    have hcap2 : (cap : Int) ≤ 9223372036854775807 := by unfold maxLen at h2; omega
    clear hb hB hlt hr h2 h3 h4
    have hfe : (bad || (a :: r).isEmpty) = bad := by simp
    by_cases hc1 : cap = 1
    · subst hc1
      have hr0 : r = [] := List.eq_nil_of_length_eq_zero (by omega)
      subst hr0
      clear h1
      go_enter Tryd.func23, Tryd.ntmps23
      go_wp2_with fail
      go_ret
      exact ⟨rfl, ⟨⟨_, B, by rw [hfe]; exact HB.out.set 0 _, (rd_tail HR.out fun h => absurd h (Nat.lt_irrefl 0)).keep fun b hb => Below.heap_setCell _ _ _ _ (by have := HBB.out; show b ≠ rb; omega), HBB.out⟩, by rw [World.size_setCell]; exact HLT.out⟩, (Mod.refl (fun b => b = rb) w).set (p := ⟨rb, 0, none⟩) (fun _ => rfl) _⟩
    · have hc2 : ¬ cap - 1 = 0 := by omega
      clear h1
      go_enter Tryd.func23, Tryd.ntmps23
      go_wp2_with fail
      go_ret
      exact ⟨rfl, ⟨⟨_, B, by rw [hfe]; exact HB.out.set 0 _, (rd_tail HR.out fun _ => rfl).keep fun b hb => Below.heap_setCell _ _ _ _ (by have := HBB.out; show b ≠ rb; omega), HBB.out⟩, by rw [World.size_setCell]; exact HLT.out⟩, (Mod.refl (fun b => b = rb) w).set (p := ⟨rb, 0, none⟩) (fun _ => rfl) _⟩
end Go.Proofs.YtkandepkojfblaaDoor
