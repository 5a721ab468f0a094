/- speech: the reader's rule. -/
import Derived.Test.YtkandepkojfblaaDoorSpRnum
import Derived.Test.YtkandepkojfblaaDoorTextP
namespace Go.Proofs.YtkandepkojfblaaDoor
open Go.RowKit

def RulePost (w : World) (rb : Nat) (ws : List (List UInt8)) (bad : Bool) (e : Ending) (w' : World) : Prop :=
  e = .returned (.agg #[.int .i64 (readR (ws.headD [])).1, .int .i64 (readR (ws.headD [])).2.1]) ∧ Wd w' rb ws.tail (bad || !decide ((readR (ws.headD [])).2.2 = 0)) ∧ Mod (fun b => b = rb) w w'
theorem Wd.far {w : World} {rb : Nat} {ws : List (List UInt8)} {bad : Bool} (h : Wd w rb ws bad) (p : Addr) (hp : p.block ≠ rb ∧ ∀ B, B ≤ rb → B ≤ p.block) (u : Value) : Wd (w.setCell p u) rb ws bad := by
  obtain ⟨⟨v, B, hb, hr, hB⟩, hlt⟩ := h
  exact ⟨⟨v, B, hb.far (fun e => hp.1 e.symm) u, hr.keep fun b hb2 => Below.heap_setCell _ _ _ _ (fun e => by have := hp.2 B hB; omega), hB⟩, by rw [World.size_setCell]; exact hlt⟩
theorem read_nil : decide ((readR []).2.2 = 0) = false := by decide
theorem read_zero (s : List UInt8) : (readR s).2.2 = 0 ∨ (readR s).2.2 = 2 ∨ (readR s).2.2 = 4 := by
  rcases read_cases s with ⟨b, l, h, _⟩ | ⟨e, h, h2⟩
  · rw [h]; exact .inl rfl
  · rw [h]; exact .inr h2

set_option maxRecDepth 100000 in
set_option maxHeartbeats 3200000 in
theorem rrule_any (w : World) (rb : Nat) (ws : List (List UInt8)) (bad : Bool) (h : Wd w rb ws bad) :
    Calls Tryd.prog 25 #[.pointer (some ⟨rb, 0, none⟩)] w (RulePost w rb ws bad) := by
  have hb0 : Below w.heap.size w (w.alloc (.cells #[.int .i64 0, .int .i64 0] 31)) := (Below.refl _ _).alloc (Nat.le_refl _) _
  have HW := Lib.hid (word_any _ rb ws bad (h.below hb0))
  have HX := Lib.hid (Blk.new w 31 #[.int .i64 0, .int .i64 0])
  have HLT := Lib.hid h.lt
  have HB0 := Lib.hid hb0
  clear hb0
  have HO := Lib.hid (bad_or bad ws (fun s => decide ((readR s).2.2 = 0)) read_nil)
  clear h
  go_enter Tryd.func25, Tryd.ntmps25
  go_wp2_with fail
  (with_reducible refine HW.out.mono ?_)
  rintro e w1 ⟨rfl, hw1, hm1⟩
  generalize hA : ws.headD [] = a at HO ⊢
  have HA := Lib.hid hA
  generalize (bad || ws.isEmpty) = b1 at hw1 HO
  have HW1 := Lib.hid hw1
  have HM1 := Lib.hid hm1
  have HX1 := Lib.hid (HX.out.mod hm1 (fun e => by have := HLT.out; omega))
  clear hw1 hm1 HW hA
  go_wp2_with fail
  (with_reducible refine (read_any w1 a).mono ?_)
  rintro e w2 ⟨rfl, hb2⟩
  have hb3 : Below w1.heap.size w1 (w2.alloc (.cells #[.int .i64 (readR a).1, .int .i64 (readR a).2.1] 31)) := hb2.alloc hb2.size _
  have hz1 := HW1.out.lt
  have hz2 := hb2.size
  have hw3 := HW1.out.below hb3
  obtain ⟨c1, k1⟩ := hw3.bad1
  have hx2 := HX1.out.mod (Mod.of_below_all hb3) (fun h => h)
  have hxn := Blk.new w2 31 #[.int .i64 (readR a).1, .int .i64 (readR a).2.1]
  have hne : w.heap.size ≠ rb := by have := HLT.out; omega
  have HW3 := Lib.hid hw3
  have HB3 := Lib.hid hb3
  have hX1 := HX1.out.lt
  have FF : ∀ v : Bool, (((w2.alloc (.cells #[.int .i64 (readR a).1, .int .i64 (readR a).2.1] 31)).setCell ⟨rb, 1, none⟩ (.bool v)).cell? ⟨w.heap.size, 0, none⟩ = some (.int .i64 0) ∧
      ((w2.alloc (.cells #[.int .i64 (readR a).1, .int .i64 (readR a).2.1] 31)).setCell ⟨rb, 1, none⟩ (.bool v)).cell? ⟨w.heap.size, 1, none⟩ = some (.int .i64 0)) ∧
      (((w2.alloc (.cells #[.int .i64 (readR a).1, .int .i64 (readR a).2.1] 31)).setCell ⟨rb, 1, none⟩ (.bool v)).cell? ⟨w2.heap.size, 0, none⟩ = some (.int .i64 (readR a).1) ∧
      ((w2.alloc (.cells #[.int .i64 (readR a).1, .int .i64 (readR a).2.1] 31)).setCell ⟨rb, 1, none⟩ (.bool v)).cell? ⟨w2.heap.size, 1, none⟩ = some (.int .i64 (readR a).2.1)) ∧
      ((w2.alloc (.cells #[.int .i64 (readR a).1, .int .i64 (readR a).2.1] 31)).setCell ⟨rb, 1, none⟩ (.bool v)).frozen? ⟨w.heap.size, 0, none⟩ = false ∧
      ((w2.alloc (.cells #[.int .i64 (readR a).1, .int .i64 (readR a).2.1] 31)).setCell ⟨rb, 1, none⟩ (.bool v)).frozen? ⟨w.heap.size, 1, none⟩ = false := fun v => by
    have g1 := hx2.far (p := ⟨rb, 1, none⟩) hne (.bool v)
    have g2 := hxn.far (p := ⟨rb, 1, none⟩) (by show w2.heap.size ≠ rb; omega) (.bool v)
    exact ⟨⟨g1.cellS (i := 0) rfl, g1.cellS (i := 1) rfl⟩, ⟨g2.cellS (i := 0) rfl, g2.cellS (i := 1) rfl⟩, g1.frozen 0, g1.frozen 1⟩
  have HEND : Hid (∀ c : Bool, (bad || !decide ((readR a).2.2 = 0)) = c → ∀ p : Addr, ∀ q : Addr, p.block = w.heap.size → q.block = w.heap.size → RulePost w rb ws bad (.returned (.agg #[.int .i64 (readR a).1, .int .i64 (readR a).2.1]))
      ((((w2.alloc (.cells #[.int .i64 (readR a).1, .int .i64 (readR a).2.1] 31)).setCell ⟨rb, 1, none⟩ (.bool c)).setCell p (.int .i64 (readR a).1)).setCell q (.int .i64 (readR a).2.1))) := fun c hc p q hp hq => by
    have hA := HA.out
    refine ⟨by rw [hA], ?_, ?_⟩
    · rw [hA, hc]
      exact ((hw3.turn c).far p ⟨by rw [hp]; exact hne, fun B hB => by rw [hp]; have := HLT.out; omega⟩ _).far q ⟨by rw [hq]; exact hne, fun B hB => by rw [hq]; have := HLT.out; omega⟩ _
    · have m0 : Mod (fun b => b = rb) w w1 := ((Mod.refl (fun b => b = rb) w).alloc _).trans HM1.out fun b _ h => h
      have m1 := m0.trans (Mod.of_below_all hb3) (S' := fun _ => False) fun b _ h => h.elim
      exact ((m1.set (p := ⟨rb, 1, none⟩) (fun _ => rfl) _).set (fun h => by rw [hp] at h; omega) _).set (fun h => by rw [hq] at h; omega) _
  have hz0 := HLT.out
  clear hx2 hxn hb2 hb3 hw3 hz1 hz2 hX1
  cases hb : b1
  · rw [hb] at c1
    have HB := Lib.hid hb
    clear hb
    by_cases he : (readR a).2.2 = 0
    · have HE := Lib.hid he
      clear he
      obtain ⟨⟨d0, d1⟩, ⟨x0, x1⟩, f0, f1⟩ := FF false
      rw [HE.out]
      have HFIN := Lib.hid (HEND.out false (by have := HO.out; rw [HB.out] at this; rw [← this, HE.out]; rfl) ⟨w.heap.size, 0, none⟩ ⟨w.heap.size, 1, none⟩ rfl rfl)
      clear FF
      generalize (readR a).1 = p at *
      generalize (readR a).2.1 = q at *
      go_wp2_with fail
      refine bodyPost_ret (v := .agg #[.int .i64 p, .int .i64 q]) (by simp [results, Tryd.results25, go_sem, d0, d1]) rfl ?_
      exact HFIN.out
    · have HE := Lib.hid he
      clear he
      obtain ⟨⟨d0, d1⟩, ⟨x0, x1⟩, f0, f1⟩ := FF true
      have HFIN := Lib.hid (HEND.out true (by have := HO.out; rw [HB.out] at this; rw [← this, decide_eq_false HE.out]; rfl) ⟨w.heap.size, 0, none⟩ ⟨w.heap.size, 1, none⟩ rfl rfl)
      clear FF
      generalize (readR a).1 = p at *
      generalize (readR a).2.1 = q at *
      have hE : ((readR a).2.2 != 0) = true := by simpa using HE.out
      generalize (readR a).2.2 = z at *
      go_wp2_with fail
      refine bodyPost_ret (v := .agg #[.int .i64 p, .int .i64 q]) (by simp [results, Tryd.results25, go_sem, d0, d1]) rfl ?_
      exact HFIN.out
  · rw [hb] at c1
    have HB := Lib.hid hb
    clear hb
    obtain ⟨⟨d0, d1⟩, ⟨x0, x1⟩, f0, f1⟩ := FF true
    have HFIN := Lib.hid (HEND.out true (by have := HO.out; rw [HB.out] at this; rw [← this]; rfl) ⟨w.heap.size, 0, none⟩ ⟨w.heap.size, 1, none⟩ rfl rfl)
    clear FF
    generalize (readR a).1 = p at *
    generalize (readR a).2.1 = q at *
    generalize (readR a).2.2 = z at *
    go_wp2_with fail
    refine bodyPost_ret (v := .agg #[.int .i64 p, .int .i64 q]) (by simp [results, Tryd.results25, go_sem, d0, d1]) rfl ?_
    exact HFIN.out
end Go.Proofs.YtkandepkojfblaaDoor
