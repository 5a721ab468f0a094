/- speech: the reader's name and place. -/
import Derived.Test.YtkandepkojfblaaDoorSpReader
namespace Go.Proofs.YtkandepkojfblaaDoor
open Go.RowKit

/-- A text taken, and whether something was bad by now. -/
def TakePost (w : World) (rb : Nat) (ws : List (List UInt8)) (bad : Bool) (f : List UInt8 → Bool) (e : Ending) (w' : World) : Prop :=
  e = .returned (.string (str (ws.headD []))) ∧ Wd w' rb ws.tail (bad || !f (ws.headD [])) ∧ Mod (fun b => b = rb) w w'
theorem Wd.turn {w : World} {rb : Nat} {ws : List (List UInt8)} {bad : Bool} (h : Wd w rb ws bad) (c : Bool) : Wd (w.setCell ⟨rb, 1, none⟩ (.bool c)) rb ws c := by
  obtain ⟨⟨v, B, hb, hr, hB⟩, hlt⟩ := h
  exact ⟨⟨v, B, hb.set 1 (.bool c), hr.keep fun b hb => Below.heap_setCell _ _ _ _ (by show b ≠ rb; omega), hB⟩, by rw [World.size_setCell]; exact hlt⟩
theorem Wd.bad1 {w : World} {rb : Nat} {ws : List (List UInt8)} {bad : Bool} (h : Wd w rb ws bad) : w.cell? ⟨rb, 1, none⟩ = some (.bool bad) ∧ w.frozen? ⟨rb, 1, none⟩ = false := by
  obtain ⟨⟨v, B, hb, hr, hB⟩, hlt⟩ := h
  exact ⟨hb.cellS (i := 1) rfl, hb.frozen 1⟩
theorem bad_or (bad : Bool) (ws : List (List UInt8)) (f : List UInt8 → Bool) (hf : f [] = false) : ((bad || ws.isEmpty) || !f (ws.headD [])) = (bad || !f (ws.headD [])) := by
  cases ws with
  | nil => simp [hf]
  | cons a r => simp
theorem take_end {w w1 : World} {rb : Nat} {ws : List (List UInt8)} {bad b1 : Bool} {f : List UInt8 → Bool} {a : List UInt8} (hA : ws.headD [] = a) (hw : Wd w1 rb ws.tail b1) (hm : Mod (fun b => b = rb) w w1) {c : Bool} (hc : (bad || !f a) = c) : TakePost w rb ws bad f (.returned (.string (str a))) (w1.setCell ⟨rb, 1, none⟩ (.bool c)) := by
  subst hA hc
  exact ⟨rfl, hw.turn _, hm.set (p := ⟨rb, 1, none⟩) (fun _ => rfl) _⟩
theorem named_nil : namedW [] = false := rfl
theorem head_len {ws : List (List UInt8)} (h : ∀ x ∈ ws, x.length ≤ 6000) : (ws.headD []).length ≤ 6000 := by
  cases ws with
  | nil => simp
  | cons a r => exact h a List.mem_cons_self

set_option maxRecDepth 100000 in
set_option maxHeartbeats 3200000 in
theorem name_any (w : World) (rb : Nat) (ws : List (List UInt8)) (bad : Bool) (h : Wd w rb ws bad) (hl : ∀ x ∈ ws, x.length ≤ 6000) :
    Calls Tryd.prog 24 #[.pointer (some ⟨rb, 0, none⟩)] w (TakePost w rb ws bad namedW) := by
  have HW := Lib.hid (word_any w rb ws bad h)
  have HL := Lib.hid (head_len hl)
  have HO := Lib.hid (bad_or bad ws namedW named_nil)
  clear h hl
  go_enter Tryd.func24, Tryd.ntmps24
  go_wp2_with fail
  (with_reducible refine HW.out.mono ?_)
  rintro e w1 ⟨rfl, hw1, hm1⟩
  generalize hA : ws.headD [] = a at HL HO ⊢
  have HA := Lib.hid hA
  generalize (bad || ws.isEmpty) = b1 at hw1 HO
  obtain ⟨c1, k1⟩ := hw1.bad1
  have HW1 := Lib.hid hw1
  have HM1 := Lib.hid hm1
  have HN := Lib.hid (named_any w1 a (by have := HL.out; omega))
  clear hw1 hm1 HW hA
  cases hb : b1
  · rw [hb] at c1
    have HB := Lib.hid hb
    clear hb
    go_wp2_with fail
    (with_reducible refine HN.out.mono ?_)
    rintro e w2 ⟨rfl, rfl⟩
    cases hn : namedW a
    · have HNW := Lib.hid hn
      clear hn
      go_wp2_with fail
      go_ret
      exact take_end HA.out HW1.out HM1.out (by have := HO.out; rw [HB.out, HNW.out] at this; rw [HNW.out]; exact this.symm)
    · have HNW := Lib.hid hn
      clear hn
      go_wp2_with fail
      go_ret
      exact take_end HA.out HW1.out HM1.out (by have := HO.out; rw [HB.out, HNW.out] at this; rw [HNW.out]; exact this.symm)
  · rw [hb] at c1
    have HB := Lib.hid hb
    clear hb
    go_wp2_with fail
    go_ret
    exact take_end HA.out HW1.out HM1.out (by have := HO.out; rw [HB.out] at this; exact this.symm)

theorem place_nil : placeW [] = false := rfl
set_option maxRecDepth 100000 in
set_option maxHeartbeats 3200000 in
theorem place_any (w : World) (rb : Nat) (ws : List (List UInt8)) (bad : Bool) (h : Wd w rb ws bad) (hl : ∀ x ∈ ws, x.length ≤ 6000) :
    Calls Tryd.prog 26 #[.pointer (some ⟨rb, 0, none⟩)] w (TakePost w rb ws bad placeW) := by
  have HW := Lib.hid (word_any w rb ws bad h)
  have HL := Lib.hid (head_len hl)
  have HO := Lib.hid (bad_or bad ws placeW place_nil)
  clear h hl
  go_enter Tryd.func26, Tryd.ntmps26
  go_wp2_with fail
  (with_reducible refine HW.out.mono ?_)
  rintro e w1 ⟨rfl, hw1, hm1⟩
  generalize hA : ws.headD [] = a at HL HO ⊢
  have HA := Lib.hid hA
  generalize (bad || ws.isEmpty) = b1 at hw1 HO
  obtain ⟨c1, k1⟩ := hw1.bad1
  have HW1 := Lib.hid hw1
  have HM1 := Lib.hid hm1
  have HN := Lib.hid (named_any w1 a (by have := HL.out; omega))
  have HK := Lib.hid (keyedS_any w1 a (by have := HL.out; omega))
  clear hw1 hm1 HW hA
  cases hb : b1
  · rw [hb] at c1
    have HB := Lib.hid hb
    clear hb
    go_wp2_with fail
    (with_reducible refine HN.out.mono ?_)
    rintro e w2 ⟨rfl, rfl⟩
    cases hn : namedW a
    · have HNW := Lib.hid hn
      clear hn
      go_wp2_with fail
      (with_reducible refine HK.out.mono ?_)
      rintro e w2 ⟨rfl, rfl⟩
      cases hk : keyedW a
      · have HKW := Lib.hid hk
        clear hk
        go_wp2_with fail
        go_ret
        exact take_end HA.out HW1.out HM1.out (by have := HO.out; rw [HB.out, placeW, HNW.out, HKW.out] at this; rw [placeW, HNW.out, HKW.out]; exact this.symm)
      · have HKW := Lib.hid hk
        clear hk
        go_wp2_with fail
        go_ret
        exact take_end HA.out HW1.out HM1.out (by have := HO.out; rw [HB.out, placeW, HNW.out, HKW.out] at this; rw [placeW, HNW.out, HKW.out]; exact this.symm)
    · have HNW := Lib.hid hn
      clear hn
      go_wp2_with fail
      go_ret
      exact take_end HA.out HW1.out HM1.out (by have := HO.out; rw [HB.out, placeW, HNW.out] at this; rw [placeW, HNW.out]; exact this.symm)
  · rw [hb] at c1
    have HB := Lib.hid hb
    clear hb
    go_wp2_with fail
    go_ret
    exact take_end HA.out HW1.out HM1.out (by have := HO.out; rw [HB.out] at this; exact this.symm)
end Go.Proofs.YtkandepkojfblaaDoor
