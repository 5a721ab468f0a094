/- speech: the reader's cells. -/
import Derived.Test.YtkandepkojfblaaDoorSpRnum
import Derived.Test.YtkandepkojfblaaDoorFresh
import Derived.Test.YtkandepkojfblaaDoorAppW
namespace Go.Proofs.YtkandepkojfblaaDoor
open Go.RowKit

/-- What Cut at a comma answers. -/
def cutT (a : List UInt8) : List UInt8 × List UInt8 × Bool :=
  match cutC a with
  | none => (a, [], false)
  | some p => (p.1, p.2, true)
theorem cutT_len {a : List UInt8} {n : Nat} (h : a.length ≤ n) : (cutT a).1.length ≤ n ∧ (cutT a).2.1.length ≤ n := by
  unfold cutT
  cases hc : cutC a with
  | none => exact ⟨h, Nat.zero_le _⟩
  | some p =>
    have := cutC_eq (a := p.1) (b := p.2) hc
    have e := congrArg List.length this
    rw [List.length_append, List.length_cons] at e
    dsimp only
    omega
theorem cellW_ok {a : List UInt8} (h1 : (cutT a).2.2 = true) (h2 : (numW (cutT a).1).isSome = true) (h3 : (numW (cutT a).2.1).isSome = true) : cellW a = some ((numW (cutT a).1).getD 0, (numW (cutT a).2.1).getD 0) := by
  unfold cutT at *
  unfold cellW
  cases hc : cutC a with
  | none => rw [hc] at h1; cases h1
  | some p =>
    rw [hc] at h2 h3
    dsimp only at h2 h3 ⊢
    rw [Option.bind_some]
    cases ha : numW p.1 with
    | none => rw [ha] at h2; cases h2
    | some x =>
      cases hb : numW p.2 with
      | none => rw [hb] at h3; cases h3
      | some y => rfl
theorem cellW_no {a : List UInt8} (h : (cutT a).2.2 = false ∨ (numW (cutT a).1).isSome = false ∨ (numW (cutT a).2.1).isSome = false) : cellW a = none := by
  unfold cutT at *
  unfold cellW
  cases hc : cutC a with
  | none => rfl
  | some p =>
    rw [hc] at h
    dsimp only at h
    rw [Option.bind_some]
    rcases h with h | h | h
    · cases h
    · cases ha : numW p.1 with
      | none => rfl
      | some x => rw [ha] at h; cases h
    · cases ha : numW p.1 with
      | none => rfl
      | some x =>
        cases hb : numW p.2 with
        | none => rfl
        | some y => rw [hb] at h; cases h
theorem cutS_any (w : World) (m : Int) (hm : w.cell? ⟨4, 0, none⟩ = some (.int .i64 m)) (a : List UInt8) (ha : a.length ≤ 1000000) :
    Calls Tryd.prog 47 #[.string (str a), .string ⟨#[44]⟩] w fun e w' => e = .returned (.tuple #[.string (str (cutT a).1), .string (str (cutT a).2.1), .bool (cutT a).2.2]) ∧ Below w.heap.size w w' := by
  refine (Tryd.strings_Cut (str a) ⟨#[44]⟩ m w (by rw [str_size]; omega) hm).mono ?_
  rintro e w' ⟨rfl, n, rfl⟩
  refine ⟨?_, below_drewN (Below.refl _ _) _⟩
  have h : Lib.cut (str a).data.toList (⟨#[44]⟩ : ByteArray).data.toList = Lib.cut a [44] := by simp [str]
  rw [h, cut_comma]
  unfold cutT
  cases cutC a with
  | none => rfl
  | some p => rfl
/-- What the loop of cells keeps. -/
structure CInv (ws : List (List UInt8)) (bad : Bool) (done : List (Int × Int)) (rest : List (List UInt8)) (bx : Bool) : Prop where
  len : done.length + rest.length = ws.length
  sub : ∀ x ∈ rest, x ∈ ws
  hbad : bad = true → bx = true
  ok : bad = false → (bx = false ∧ cellsW ws = (cellsW rest).map fun l => done ++ l) ∨ (bx = true ∧ cellsW ws = none)
theorem CInv.start (ws : List (List UInt8)) (bad : Bool) : CInv ws bad [] ws bad :=
  ⟨by simp, fun x h => h, id, fun h => .inl ⟨h, by cases cellsW ws <;> rfl⟩⟩
theorem CInv.step {ws : List (List UInt8)} {bad : Bool} {done : List (Int × Int)} {a : List UInt8} {r : List (List UInt8)} (h : CInv ws bad done (a :: r) false) {c : Int × Int} (hc : cellW a = some c) : CInv ws bad (done ++ [c]) r false := by
  refine ⟨by have := h.len; rw [List.length_append, List.length_singleton]; rw [List.length_cons] at this; omega, fun x hx => h.sub x (List.mem_cons_of_mem _ hx), h.hbad, fun hb => .inl ⟨rfl, ?_⟩⟩
  rcases h.ok hb with ⟨_, h2⟩ | ⟨h1, _⟩
  · rw [h2, cellsW, hc, Option.bind_some]
    cases cellsW r with
    | none => rfl
    | some l => simp
  · cases h1
theorem CInv.fail {ws : List (List UInt8)} {bad : Bool} {done : List (Int × Int)} {a : List UInt8} {r : List (List UInt8)} (h : CInv ws bad done (a :: r) false) (c : Int × Int) (hc : cellW a = none) : CInv ws bad (done ++ [c]) r true := by
  refine ⟨by have := h.len; rw [List.length_append, List.length_singleton]; rw [List.length_cons] at this; omega, fun x hx => h.sub x (List.mem_cons_of_mem _ hx), fun _ => rfl, fun hb => .inr ⟨rfl, ?_⟩⟩
  rcases h.ok hb with ⟨_, h2⟩ | ⟨h1, _⟩
  · rw [h2, cellsW, hc]; rfl
  · cases h1
def CellsPost (w : World) (rb : Nat) (ws : List (List UInt8)) (bad : Bool) (e : Ending) (w' : World) : Prop :=
  ∃ v done rest bx, e = .returned v ∧ Sl w' 57 2 v done.length (flat done) ∧ (∀ q, sblk v = some q → w.heap.size ≤ q) ∧ Wd w' rb rest bx ∧ Mod (fun b => b = rb) w w' ∧ CInv ws bad done rest bx ∧ (bx = true ∨ rest = [])
def lenOf : Value → Nat
  | .slice _ n _ => n
  | _ => 0
theorem Wd.mod {S : Nat → Prop} {w w' : World} {rb : Nat} {ws : List (List UInt8)} {bad : Bool} (h : Wd w rb ws bad) (hm : Mod S w w') (hS : ∀ b, b ≤ rb → ¬ S b) : Wd w' rb ws bad := by
  obtain ⟨⟨v, B, h1, hr, hB⟩, hlt⟩ := h
  exact ⟨⟨v, B, h1.mod hm (hS rb (Nat.le_refl _)), hr.keep fun b hb2 => hm.block b (by omega) (hS b (by omega)), hB⟩, by have := hm.size; omega⟩
theorem Wd.head {w : World} {rb : Nat} {ws : List (List UInt8)} {bad : Bool} (h : Wd w rb ws bad) : ∃ A cap, w.cell? ⟨rb, 0, none⟩ = some (.slice A ws.length cap) ∧ w.cell? ⟨rb, 1, none⟩ = some (.bool bad) ∧ ws.length ≤ cap := by
  obtain ⟨⟨v, B, hb, hr, hB⟩, hlt⟩ := h
  obtain ⟨A, cap, rfl, h1, h2⟩ := hr.form
  exact ⟨A, cap, hb.cellS (i := 0) rfl, hb.cellS (i := 1) rfl, h1⟩
theorem Wd.apart {w : World} {rb : Nat} {ws : List (List UInt8)} {bad : Bool} (h : Wd w rb ws bad) {g : Nat} {m : Int} (hg : w.cell? ⟨g, 0, none⟩ = some (.int .i64 m)) : g ≠ rb := by
  rintro rfl
  obtain ⟨A, cap, h1, _⟩ := h.head
  rw [h1] at hg; cases hg

set_option maxRecDepth 100000 in
set_option maxHeartbeats 3200000 in
theorem rcells_any (w : World) (m : Int) (hm : w.cell? ⟨4, 0, none⟩ = some (.int .i64 m)) (rb : Nat) (ws : List (List UInt8)) (bad : Bool) (h : Wd w rb ws bad) (hl : ∀ x ∈ ws, x.length ≤ 6000) (hn : ws.length ≤ 10000) :
    Calls Tryd.prog 27 #[.pointer (some ⟨rb, 0, none⟩)] w (CellsPost w rb ws bad) := by
  have HM := Lib.hid hm
  have HML : Hid (4 < w.heap.size) := World.block_lt_of_cell? w _ hm
  have HNE := Lib.hid (h.apart hm)
  have HRB := Lib.hid h.lt
  have HL := Lib.hid hl
  have HN := Lib.hid hn
  have HW := Lib.hid h
  have HNIL := Lib.hid (Sl.nil w 57 2)
  clear hm hl hn h
  go_enter Tryd.func27, Tryd.ntmps27
  go_wp2_with fail
  go_loopw [3] (fun lv wx => ∃ (done : List (Int × Int)) (rest : List (List UInt8)) (bx : Bool), Sl wx 57 2 lv done.length (flat done) ∧ (∀ q, sblk lv = some q → w.heap.size ≤ q) ∧ Wd wx rb rest bx ∧ Mod (fun b => b = rb) w wx ∧ CInv ws bad done rest bx) (fun lv _ => ws.length - lenOf lv)
  case atStart => exact ⟨[], ws, bad, HNIL.out, fun q hq => by simp [sblk] at hq, HW.out, Mod.refl _ _, CInv.start _ _⟩
  case round =>
    obtain ⟨done, rest, bx, hs, hf, hw, hmd, hi⟩ := hrel
    obtain ⟨A, cap, c0, c1, hcap⟩ := hw.head
    have HS := Lib.hid hs
    have HF := Lib.hid hf
    have HWR := Lib.hid hw
    have HMD := Lib.hid hmd
    have HI := Lib.hid hi
    clear hs hf hw hmd hi HNIL HW
    by_cases hr : rest = []
    · subst hr
      have c0' : wr.cell? ⟨rb, 0, none⟩ = some (.slice A 0 cap) := c0
      clear c0 hcap
      go_wp2_with fail
      go_ret
      exact ⟨_, done, [], bx, rfl, HS.out, HF.out, HWR.out, HMD.out, HI.out, .inr rfl⟩
    obtain ⟨a, r, rfl⟩ : ∃ a r, rest = a :: r := by
      cases rest with
      | nil => exact absurd rfl hr
      | cons a r => exact ⟨a, r, rfl⟩
    clear hr
    have hpos : (0 : Int) < ((a :: r).length : Int) := by simp
    cases bx
    · obtain ⟨A3, cap3, rfl, hdc, hcap3⟩ := HS.out.form
      unfold maxLen at hcap3
      have ha : a.length ≤ 6000 := HL.out a (HI.out.sub a List.mem_cons_self)
      have hdl : done.length ≤ 10000 := by have := HI.out.len; have := HN.out; omega
      have HDL : Hid (done.length + 1 ≤ ws.length) := by show _ ≤ _; have := HI.out.len; rw [List.length_cons] at this; omega
      have HWD := Lib.hid (word_any wr rb (a :: r) false HWR.out)
      have HCU := Lib.hid (fun w hm => cutS_any w m hm a (by omega))
      obtain ⟨hx, hy⟩ := cutT_len ha
      have HNX := Lib.hid (fun w => number_any w (cutT a).1 (by omega))
      have HNY := Lib.hid (fun w => number_any w (cutT a).2.1 (by omega))
      have HMR : Hid (wr.cell? ⟨4, 0, none⟩ = some (.int .i64 m)) := (HMD.out.cell (a := ⟨4, 0, none⟩) HML.out HNE.out).trans HM.out
      have HSZ := Lib.hid HMD.out.size
      generalize hnl : (a :: r).length = nl at c0 hcap hpos
      clear ha hx hy hnl
      go_wp2_with fail
      (with_reducible refine HWD.out.mono ?_)
      rintro e w1 ⟨rfl, hw1, hm1⟩
      have HW1 := Lib.hid hw1
      have HM1 := Lib.hid hm1
      have HMC : Hid (w1.cell? ⟨4, 0, none⟩ = some (.int .i64 m)) := (hm1.cell (a := ⟨4, 0, none⟩) (Nat.lt_of_lt_of_le HML.out HSZ.out) HNE.out).trans HMR.out
      clear hw1 hm1 HWD
      have hh : (a :: r).headD [] = a := rfl
      rw [hh]
      go_wp2_with fail
      (with_reducible refine (HCU.out _ HMC.out).mono ?_)
      rintro e w2 ⟨rfl, hb2⟩
      have HB2 := Lib.hid hb2
      have HZ1 := Lib.hid HM1.out.size
      have HOK := Lib.hid (fun h1 h2 h3 => cellW_ok (a := a) h1 h2 h3)
      have HNO := Lib.hid (fun h => cellW_no (a := a) h)
      clear hb2 hh
      generalize (cutT a).1 = x at *
      generalize (cutT a).2.1 = y at *
      generalize (cutT a).2.2 = ok at *
      go_wp2_with fail
      (with_reducible refine (HNX.out _).mono ?_)
      rintro e w3 ⟨rfl, hb3⟩
      have HB3 : Hid (Below w1.heap.size w1 w3) := HB2.out.trans (hb3.mono HB2.out.size)
      clear hb3
      go_wp2_with fail
      (with_reducible refine (HNY.out _).mono ?_)
      rintro e w4 ⟨rfl, hb4⟩
      have HB4 : Hid (Below w1.heap.size w1 w4) := HB3.out.trans (hb4.mono HB3.out.size)
      clear hb4 HB2 HB3
      have hw4 := HW1.out.below HB4.out
      obtain ⟨d1, k1⟩ := hw4.bad1
      have d1' : w4.cell? ⟨rb, 1, none⟩ = some (.bool false) := d1
      clear d1
      have HW4 := Lib.hid hw4
      have HM4 : Hid (Mod (fun b => b = rb) wr w4) := HM1.out.trans (Mod.of_below_all HB4.out) (S' := fun _ => False) fun b _ h => h.elim
      have HS4 : Hid (Sl w4 57 2 (.slice A3 done.length cap3) done.length (flat done)) := HS.out.mod HM4.out fun b hb e => by have := HF.out b hb; have := HRB.out; omega
      clear hw4
      generalize (numW x).getD 0 = n1 at *
      generalize (numW y).getD 0 = n2 at *
      generalize (numW x).isSome = i1 at *
      generalize (numW y).isSome = i2 at *
      have hcase : (∃ bx', (!ok || !i1 || !i2) = bx' ∧ CInv ws bad (done ++ [(n1, n2)]) r bx') := by
        refine ⟨_, rfl, ?_⟩
        cases ok
        · exact HI.out.fail _ (HNO.out (.inl rfl))
        cases i1
        · exact HI.out.fail _ (HNO.out (.inr (.inl rfl)))
        cases i2
        · exact HI.out.fail _ (HNO.out (.inr (.inr rfl)))
        exact HI.out.step (HOK.out rfl rfl rfl)
      obtain ⟨bx', hbx, hci⟩ := hcase
      have HCI := Lib.hid hci
      clear hci HOK HNO HI
      have HWE : Hid (Wd (w4.setCell ⟨rb, 1, none⟩ (.bool bx')) rb r bx') := HW4.out.turn bx'
      have HME : Hid (Mod (fun b => b = rb) w (w4.setCell ⟨rb, 1, none⟩ (.bool bx'))) := (HMD.out.trans HM4.out fun b _ h => h).set (p := ⟨rb, 1, none⟩) (fun _ => rfl) _
      have HSE : Hid (Sl (w4.setCell ⟨rb, 1, none⟩ (.bool bx')) 57 2 (.slice A3 done.length cap3) done.length (flat done)) := HS4.out.far (p := ⟨rb, 1, none⟩) (fun e => by have := HF.out _ e; have := HRB.out; simp at *; omega) _
      have HFIN : Hid (∀ v' w5, Sl w5 57 2 v' (done.length + 1) (flat done ++ flat [(n1, n2)]) → Mod (fun b => sblk (.slice A3 done.length cap3) = some b) ((w4.setCell ⟨rb, 1, none⟩ (.bool bx')).alloc (.cells (flat [(n1, n2)]).toArray 57)) w5 → (sblk v' = sblk (.slice A3 done.length cap3) ∨ sblk v' = some ((w4.setCell ⟨rb, 1, none⟩ (.bool bx')).alloc (.cells (flat [(n1, n2)]).toArray 57)).heap.size ∧ ((w4.setCell ⟨rb, 1, none⟩ (.bool bx')).alloc (.cells (flat [(n1, n2)]).toArray 57)).heap.size < w5.heap.size) →
          (∃ (done : List (Int × Int)) (rest : List (List UInt8)) (bx : Bool), Sl w5 57 2 v' done.length (flat done) ∧ (∀ q, sblk v' = some q → w.heap.size ≤ q) ∧ Wd w5 rb rest bx ∧ Mod (fun b => b = rb) w w5 ∧ CInv ws bad done rest bx) ∧ ws.length - lenOf v' < ws.length - done.length) := fun v' w5 hs5 hm5 hd5 => by
        have hwa := HWE.out.below ((Below.refl _ (w4.setCell ⟨rb, 1, none⟩ (.bool bx'))).alloc (Nat.le_refl _) (.cells (flat [(n1, n2)]).toArray 57))
        have hma := HME.out.alloc (.cells (flat [(n1, n2)]).toArray 57)
        obtain ⟨A5, cap5, rfl, _, _⟩ := hs5.form
        refine ⟨⟨done ++ [(n1, n2)], r, bx', by rw [flat_append, List.length_append]; exact hs5, fun q hq => ?_, ?_, ?_, HCI.out⟩, by have := HDL.out; show ws.length - (done.length + 1) < _; omega⟩
        · rcases hd5 with e | ⟨e, _⟩
          · exact HF.out q (by rw [← e]; exact hq)
          · rw [e] at hq; injection hq with hq; have := hma.size; omega
        · exact hwa.mod hm5 fun b hb e => by have := HF.out b e; have := HRB.out; omega
        · exact hma.trans hm5 fun b hb e => by have := HF.out b e; omega
      have hnew := fresh_cells (w4.setCell ⟨rb, 1, none⟩ (.bool bx')) [(n1, n2)] 1 rfl (by unfold maxLen; omega)
      rw [World.size_setCell] at hnew
      have HNEW := Lib.hid hnew
      clear hnew
      have HSA := Lib.hid (HSE.out.alloc (.cells (flat [(n1, n2)]).toArray 57))
      clear HCI HWE HME HSE HS4 HM4 HW4 HCU HNX HNY HW1 HM1 HMC HB4 HZ1 HMD HS c0 hcap hpos c1 HWR HMR HSZ
      have h4 : (ok = false) ∨ (ok = true ∧ i1 = false) ∨ (ok = true ∧ i1 = true ∧ i2 = false) ∨ (ok = true ∧ i1 = true ∧ i2 = true) := by
        cases ok <;> cases i1 <;> cases i2 <;> simp
      generalize hdn : done.length = dn at *
      have HDN := Lib.hid hdn
      clear hdn
      rcases h4 with rfl | ⟨rfl, rfl⟩ | ⟨rfl, rfl, rfl⟩ | ⟨rfl, rfl, rfl⟩
      all_goals
        simp at hbx
        subst hbx
        go_wp2_with (at_builtin; go_loud (refine wpList_append_sl _ rfl (.tmp 60) (.tmp 64) 32 rfl 57 (.agg #[.int .i64 0, .int .i64 0]) 2 16 Tryd.underlying32 Tryd.info57 rfl (by decide) rfl (by exact HSA.out) rfl (by exact HNEW.out) flat_one (by omega) (by unfold maxLen; omega) ?_); intro v' w5 hs5 hm5 hd5)
        have hfin := HFIN.out v' w5 hs5 hm5 hd5
        exact ⟨hfin.1, by have := hfin.2; show _ < ws.length - done.length; rw [HDN.out]; exact this⟩
    · generalize hnl : (a :: r).length = nl at c0 hcap hpos
      clear hnl
      go_wp2_with fail
      go_ret
      exact ⟨_, done, a :: r, true, rfl, HS.out, HF.out, HWR.out, HMD.out, HI.out, .inl rfl⟩
end Go.Proofs.YtkandepkojfblaaDoor
