/- arena: New. -/
import Derived.Test.YtfoipadgicjcaaaArNote
import Derived.Test.YtfoipadgicjcaaaArClean
namespace Go.Proofs.Ytfoipadgicjcaaa
open Go.RowKit

def newA (room : Int) (i : Nat) : ArS := { room := room, ents := [zeroE, zeroE], idx := fun _ => none, size := 0, free := [], count := fun _ => 0, quota := fun k => if k < i then room else 0, added := fun _ => [], live := 0 }
theorem newA_inv {room : Int} (h : 0 ≤ room ∧ room ≤ 200000) (i : Nat) : Inv (newA room i) where
  room := h
  zero := ⟨rfl, rfl⟩
  part := rfl
  full := by show (2 : Int) ≤ 2 + room; omega
  cnt := rfl
  idx := fun k id hk => by cases hk
  own := fun j e he hm => by
    exfalso
    rcases j with _ | _ | j
    · have := Option.some.inj he; subst this; exact hm rfl
    · have := Option.some.inj he; subst this; exact hm rfl
    · simp [newA] at he
  keys := fun e he => by
    have : e = zeroE := by
      simp [newA] at he; exact he
    subst this; exact zero_ok
  nodup := List.nodup_nil
  free := fun x hx => by cases hx
  count := fun t _ => by simp [newA, bitC, zeroE]
  added := fun t _ x hx => by cases hx
theorem mk_list (W : World) : (Instr.makeSlice 86 (.int .i64 2) (.int .i64 2)).run Try.prog W = .ok (.slice (some ⟨W.heap.size, 0, none⟩) 2 2) (W.alloc (.cells #[.int .i64 0, .int .i64 0, .int .i64 0, .int .i64 0, .int .i64 0, .int .i64 0, .int .i64 0, .int .u64 0, .int .i64 0, .int .i64 0, .int .i64 0, .int .i64 0, .int .i64 0, .int .i64 0, .int .i64 0, .int .u64 0] EN)) := by kernel_rfl
def zC (j : Nat) : Value := if j = 0 then .int .i64 0 else if j = 1 then .slice none 0 0 else if j = 2 then .map none else if j = 3 then .slice none 0 0 else if j < 68 then .int .i64 0 else if j < 132 then .int .i64 0 else if j < 196 then .slice none 0 0 else .int .i64 0
theorem zc_arena : Try.zeroCells92 = Array.ofFn (n := 197) fun i => zC i := by kernel_rfl
def newR (b m : Nat) : ArR := ⟨.slice (some ⟨b, 0, none⟩) 2 2, m, nilV, fun _ => nilV⟩
theorem new_cells (room : Int) (b m : Nat) : ((Try.zeroCells92.setIfInBounds 0 (.int .i64 room)).setIfInBounds 1 (.slice (some ⟨b, 0, none⟩) 2 2)).setIfInBounds 2 (.map (some m)) = arCells (newR b m) (newA room 0) := by
  rw [zc_arena]
  apply Array.ext (by simp [arCells])
  intro j hj hj'
  have hj197 : j < 197 := by simpa [arCells] using hj'
  by_cases h0 : j = 0
  · subst h0
    rw [Array.getElem_setIfInBounds_ne _ (by decide), Array.getElem_setIfInBounds_ne _ (by decide), Array.getElem_setIfInBounds_self]
    all_goals simp [arCells, arC, newA]
  · by_cases h1 : j = 1
    · subst h1
      rw [Array.getElem_setIfInBounds_ne _ (by decide), Array.getElem_setIfInBounds_self]
      all_goals simp [arCells, arC, newR]
    · by_cases h2 : j = 2
      · subst h2
        rw [Array.getElem_setIfInBounds_self]
        all_goals simp [arCells, arC, newR]
      · rw [Array.getElem_setIfInBounds_ne (by simp; omega) (Ne.symm h2), Array.getElem_setIfInBounds_ne (by simp; omega) (Ne.symm h1), Array.getElem_setIfInBounds_ne (by simp; omega) (Ne.symm h0)]
        simp only [arCells, Array.getElem_ofFn, zC, arC, newA, newR, nilV]
        simp only [h0, h1, h2, if_false]
        by_cases h3 : j = 3
        · simp only [h3, if_true]
        · simp only [h3, if_false]
          by_cases h4 : j < 68
          · simp only [h4, if_true]
          · simp only [h4, if_false]
            have : ¬ (j - 68 < 0) := by omega
            simp only [this, if_false]
theorem new_arm (w : World) (room : Int) : ArM (((w.alloc (.cells #[.int .i64 0, .int .i64 0, .int .i64 0, .int .i64 0, .int .i64 0, .int .i64 0, .int .i64 0, .int .u64 0, .int .i64 0, .int .i64 0, .int .i64 0, .int .i64 0, .int .i64 0, .int .i64 0, .int .i64 0, .int .u64 0] EN)).alloc (.map #[] 0)).alloc (.cells (((Try.zeroCells92.setIfInBounds 0 (.int .i64 room)).setIfInBounds 1 (.slice (some ⟨w.heap.size, 0, none⟩) 2 2)).setIfInBounds 2 (.map (some (w.heap.size + 1)))) AR)) (w.heap.size + 1 + 1) (newR w.heap.size (w.heap.size + 1)) (newA room 0) := by
  rw [new_cells]
  generalize hw1 : w.alloc (.cells #[.int .i64 0, .int .i64 0, .int .i64 0, .int .i64 0, .int .i64 0, .int .i64 0, .int .i64 0, .int .u64 0, .int .i64 0, .int .i64 0, .int .i64 0, .int .i64 0, .int .i64 0, .int .i64 0, .int .i64 0, .int .u64 0] EN) = w1
  have hs1 : w1.heap.size = w.heap.size + 1 := by subst hw1; simp
  have hb1 : Blk w1 w.heap.size EN #[.int .i64 0, .int .i64 0, .int .i64 0, .int .i64 0, .int .i64 0, .int .i64 0, .int .i64 0, .int .u64 0, .int .i64 0, .int .i64 0, .int .i64 0, .int .i64 0, .int .i64 0, .int .i64 0, .int .i64 0, .int .u64 0] := by subst hw1; exact Blk.new w _ _
  generalize hw2 : w1.alloc (.map #[] 0) = w2
  have hs2 : w2.heap.size = w.heap.size + 1 + 1 := by subst hw2; simp [hs1]
  have hb2 : Blk w2 w.heap.size EN #[.int .i64 0, .int .i64 0, .int .i64 0, .int .i64 0, .int .i64 0, .int .i64 0, .int .i64 0, .int .u64 0, .int .i64 0, .int .i64 0, .int .i64 0, .int .i64 0, .int .i64 0, .int .i64 0, .int .i64 0, .int .u64 0] := by subst hw2; exact hb1.alloc _
  have hm2 : MapK w2 (w.heap.size + 1) 0 (fun _ => none) := by subst hw2; rw [← hs1]; exact MapK.made w1
  have hnone : ∀ b, sblk nilV ≠ some b := fun b h => by simp [nilV, sblk] at h
  refine ⟨?_, ?_, ?_, Sl.nil _ _ _, fun t _ => Sl.nil _ _ _, fun t _ b hb => absurd hb (hnone b), fun t t' _ _ _ b hb => absurd hb (hnone b), ?_⟩
  · have := Blk.new w2 AR (arCells (newR w.heap.size (w.heap.size + 1)) (newA room 0))
    rw [hs2] at this; exact this
  · have hsl : Sl w2 EN 8 (.slice (some ⟨w.heap.size, 0, none⟩) 2 2) 2 (entsV [zeroE, zeroE]) := by
      refine ⟨rfl, some ⟨w.heap.size, 0, none⟩, 2, rfl, Nat.le_refl _, by unfold maxLen; omega, (fun h => nomatch h), fun a ha => ?_⟩
      injection ha with ha; subst ha
      exact ⟨_, rfl, hb2, Nat.le_refl 16, rfl⟩
    exact hsl.alloc _
  · exact hm2.of_block (Below.heap_alloc w2 _ _ (by omega))
  · intro e he
    have : e = zeroE := by simp [newA] at he; exact he
    subst this; exact zero_ok.2.2.2
def NewPost (w : World) (room : Int) (e : Ending) (w' : World) : Prop :=
  ∃ (p : Nat) (R : ArR), e = .returned (.tuple #[.pointer (some ⟨p, 0, none⟩), .int .i64 0]) ∧ ArM w' p R (newA room 64) ∧ Below w.heap.size w w' ∧ ∀ b, Own p R b → w.heap.size ≤ b

set_option maxRecDepth 100000 in
set_option maxHeartbeats 3200000 in
theorem new_any (w : World) (room : Int) (h : 0 ≤ room ∧ room ≤ 200000) :
    Calls Try.prog 16 #[.int .i64 room] w (NewPost w room) := by
  have H := Lib.hid h
  have h1 : ¬ room < 0 := by omega
  have h2 : ¬ 200000 < room := by omega
  clear h
  have hmm := @run_makeMap Try.prog
  have hmk := mk_list
  go_enter Try.func16, Try.ntmps16
  go_wp2_with fail
  have HA := Lib.hid (new_arm w room)
  have HBL : Hid (Below w.heap.size w (((w.alloc (.cells #[.int .i64 0, .int .i64 0, .int .i64 0, .int .i64 0, .int .i64 0, .int .i64 0, .int .i64 0, .int .u64 0, .int .i64 0, .int .i64 0, .int .i64 0, .int .i64 0, .int .i64 0, .int .i64 0, .int .i64 0, .int .u64 0] EN)).alloc (.map #[] 0)).alloc (.cells (((Try.zeroCells92.setIfInBounds 0 (.int .i64 room)).setIfInBounds 1 (.slice (some ⟨w.heap.size, 0, none⟩) 2 2)).setIfInBounds 2 (.map (some (w.heap.size + 1)))) AR))) :=
    (((Below.refl w.heap.size w).alloc (Nat.le_refl _) _).alloc (by simp) _).alloc (by simp; omega) _
  have HOW : Hid (∀ b, Own (w.heap.size + 1 + 1) (newR w.heap.size (w.heap.size + 1)) b → w.heap.size ≤ b) := by
    show ∀ b, Own (w.heap.size + 1 + 1) (newR w.heap.size (w.heap.size + 1)) b → w.heap.size ≤ b
    intro b hb
    rcases hb with h | h | h | h | ⟨t, _, h⟩
    · omega
    · rw [h]; show w.heap.size ≤ w.heap.size + 1; omega
    · have := Option.some.inj h; show w.heap.size ≤ b; rw [← this]; exact Nat.le_refl _
    · simp [newR, nilV, sblk] at h
    · simp [newR, nilV, sblk] at h
  change Code.wp _ _ _ _ (((w.alloc (.cells #[.int .i64 0, .int .i64 0, .int .i64 0, .int .i64 0, .int .i64 0, .int .i64 0, .int .i64 0, .int .u64 0, .int .i64 0, .int .i64 0, .int .i64 0, .int .i64 0, .int .i64 0, .int .i64 0, .int .i64 0, .int .u64 0] EN)).alloc (.map #[] 0)).alloc (.cells (((Try.zeroCells92.setIfInBounds 0 (.int .i64 room)).setIfInBounds 1 (.slice (some ⟨w.heap.size, 0, none⟩) 2 2)).setIfInBounds 2 (.map (some (w.heap.size + 1)))) AR))
  generalize World.alloc _ _ = w2 at HA HBL ⊢
  generalize newR w.heap.size (w.heap.size + 1) = R at HA HOW
  clear hmm hmk
  go_loopw [17] (fun iv wx => ∃ i : Nat, iv = .int .i64 i ∧ i ≤ 64 ∧ ArM wx (w.heap.size + 1 + 1) R (newA room i) ∧ Below w.heap.size w wx) (fun iv _ => 64 - (intOf iv).toNat)
  case atStart => exact ⟨0, rfl, Nat.zero_le _, HA.out, HBL.out⟩
  case round =>
    obtain ⟨i, rfl, hi, hA, hB⟩ := hrel
    by_cases hi4 : i < 64
    · have c0 := hA.cQuota hi4
      have f0 := hA.f (68 + i)
      have hlt : (i : Int) < 64 := by omega
      have hwi := wrap_nat' i (by unfold maxLen; omega)
      have HA2 : Hid (ArM (wr.setCell ⟨w.heap.size + 1 + 1, 68 + i, none⟩ (.int .i64 room)) (w.heap.size + 1 + 1) R (newA room (i + 1))) := by
        have := hA.put (arCells_quota R (newA room i) hi4 room) rfl rfl rfl rfl rfl
        have e : ({ newA room i with quota := upd (newA room i).quota i room } : ArS) = newA room (i + 1) := by
          have hq : upd (newA room i).quota i room = fun k => if k < i + 1 then room else 0 := by
            funext k
            show upd (fun k => if k < i then room else 0) i room k = _
            unfold upd
            by_cases hk : k = i
            · subst hk; simp
            · simp only [hk, if_false]
              by_cases hk2 : k < i
              · simp [hk2]; omega
              · simp [hk2]; omega
          rw [hq]; rfl
        rw [e] at this
        exact this
      have HB2 := Lib.hid (hB.setCell (p := ⟨w.heap.size + 1 + 1, 68 + i, none⟩) (by show w.heap.size ≤ w.heap.size + 1 + 1; omega) (.int .i64 room))
      have HI4 := Lib.hid hi4
      clear hA hB hi hi4
      go_wp2_with fail
      go_roundw
      case rel => exact ⟨i + 1, by go_num, HI4.out, HA2.out, HB2.out⟩
      case measure => simp [intOf]; have := HI4.out; omega
    · have hi5 : i = 64 := by omega
      subst hi5
      have HA2 := Lib.hid hA
      have HB2 := Lib.hid hB
      clear hA hB hi hi4
      go_wp2_with fail
      go_returns
      exact ⟨_, R, rfl, HA2.out, HB2.out, HOW.out⟩
end Go.Proofs.Ytfoipadgicjcaaa
