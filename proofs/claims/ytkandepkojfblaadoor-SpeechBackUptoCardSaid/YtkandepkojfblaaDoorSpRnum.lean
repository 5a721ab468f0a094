/- speech: the reader's number. -/
import Derived.Test.YtkandepkojfblaaDoorSpPlace
import Derived.Test.YtkandepkojfblaaDoorSpNumber
namespace Go.Proofs.YtkandepkojfblaaDoor
open Go.RowKit

theorem Wd.below {w w' : World} {rb : Nat} {ws : List (List UInt8)} {bad : Bool} (h : Wd w rb ws bad) (hb : Below w.heap.size w w') : Wd w' rb ws bad := by
  obtain ⟨⟨v, B, h1, hr, hB⟩, hlt⟩ := h
  exact ⟨⟨v, B, h1.mod (Mod.of_below_all hb) (fun h => h), hr.keep fun b hb2 => hb.block b (by omega), hB⟩, by have := hb.size; omega⟩
theorem num_nil : (numW []).isSome = false := rfl
def RNumPost (w : World) (rb : Nat) (ws : List (List UInt8)) (bad : Bool) (e : Ending) (w' : World) : Prop :=
  e = .returned (.int .i64 ((numW (ws.headD [])).getD 0)) ∧ Wd w' rb ws.tail (bad || !(numW (ws.headD [])).isSome) ∧ Mod (fun b => b = rb) w w'

set_option maxRecDepth 100000 in
set_option maxHeartbeats 3200000 in
theorem rnum_any (w : World) (rb : Nat) (ws : List (List UInt8)) (bad : Bool) (h : Wd w rb ws bad) (hl : ∀ x ∈ ws, x.length ≤ 6000) :
    Calls Tryd.prog 28 #[.pointer (some ⟨rb, 0, none⟩)] w (RNumPost w rb ws bad) := by
  have HW := Lib.hid (word_any w rb ws bad h)
  have HL := Lib.hid (head_len hl)
  have HO := Lib.hid (bad_or bad ws (fun s => (numW s).isSome) num_nil)
  clear h hl
  go_enter Tryd.func28, Tryd.ntmps28
  go_wp2_with fail
  (with_reducible refine HW.out.mono ?_)
  rintro e w1 ⟨rfl, hw1, hm1⟩
  generalize hA : ws.headD [] = a at HL HO ⊢
  have HA := Lib.hid hA
  generalize (bad || ws.isEmpty) = b1 at hw1 HO
  have HW1 := Lib.hid hw1
  have HM1 := Lib.hid hm1
  have HN := Lib.hid (number_any w1 a (by have := HL.out; omega))
  clear hw1 hm1 HW hA
  go_wp2_with fail
  (with_reducible refine HN.out.mono ?_)
  rintro e w2 ⟨rfl, hb2⟩
  have hw2 := HW1.out.below hb2
  obtain ⟨c1, k1⟩ := hw2.bad1
  have HW2 := Lib.hid hw2
  have HEND : Hid (∀ c : Bool, (b1 || !(numW a).isSome) = c → RNumPost w rb ws bad (.returned (.int .i64 ((numW a).getD 0))) (w2.setCell ⟨rb, 1, none⟩ (.bool c))) := fun c hc => by
    have hA := HA.out
    refine ⟨by rw [hA], ?_, ?_⟩
    · rw [hA, ← HO.out, hc]; exact hw2.turn c
    · exact (HM1.out.trans (Mod.of_below_all hb2) (S' := fun _ => False) fun b _ h => h.elim).set (p := ⟨rb, 1, none⟩) (fun _ => rfl) _
  clear hw2 hb2 HN
  generalize (numW a).getD 0 = n at *
  generalize (numW a).isSome = ok at *
  cases b1
  · cases ok
    · go_wp2_with fail
      go_ret
      exact HEND.out true rfl
    · go_wp2_with fail
      go_ret
      exact HEND.out false rfl
  · have HE2 := Lib.hid (HEND.out true rfl)
    go_wp2_with fail
    go_ret
    exact HE2.out
end Go.Proofs.YtkandepkojfblaaDoor
