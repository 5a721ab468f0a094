/- rle.writer.piece: the walk. -/
import Derived.Test.YtlcjadgaommfmaaDoorRlWr
import Derived.Test.YtlcjadgaommfmaaDoorRlE
import Derived.Lib.AppendIntMem
import Derived.Lib.SmallJoins
namespace Go.Proofs.YtlcjadgaommfmaaDoor
open Go.RowKit

theorem Tryd.globalPow : Tryd.prog.globalNamed "internal/strconv.uint64pow10" = some 1 := by kernel_rfl
/-- The variables that are read. -/
structure RlG (B : Nat) (w : World) : Prop where
  pow : Lib.TabIs Tryd.prog w "internal/strconv.uint64pow10" .u64 Lib.pow10Tab
  powlt : 1 < B
  m : ∃ m, w.cell? ⟨0, 0, none⟩ = some (.int .i64 m)
  mlt : 0 < B
theorem RlG.below {B : Nat} {w w' : World} (h : RlG B w) (hb : Below B w w') : RlG B w' := by
  obtain ⟨hp, hl, ⟨m, hm⟩, hml⟩ := h
  have hp2 : Lib.TabIs Tryd.prog w' "internal/strconv.uint64pow10" .u64 Lib.pow10Tab := by
    unfold Lib.TabIs World.var? at hp ⊢
    rw [Tryd.globalPow] at hp ⊢
    simp only [Option.bind_some] at hp ⊢
    rw [hb.block _ hl]
    exact hp
  exact ⟨hp2, hl, ⟨m, (hb.cell (p := ⟨0, 0, none⟩) hml).trans hm⟩, hml⟩
theorem itoa_any (w : World) (n : Nat) (h1 : n < 10000000000000) {B : Nat} (hg : RlG B w) :
    Calls Tryd.prog 21 #[.int .i64 (n : Int)] w fun e w' => e = .returned (.string (str (Lib.decDigits n))) ∧ Below w.heap.size w w' := by
  refine (Tryd.strconv_Itoa (n : Int) (by omega) (by omega) w hg.pow).mono ?_
  rintro e w' ⟨rfl, k, os, rfl⟩
  refine ⟨?_, Lib.below_grow _ _ (Nat.le_refl _) _ _⟩
  have : Lib.itoa (n : Int) = Lib.decDigits n := by
    unfold Lib.itoa
    rw [if_neg (by omega)]; rfl
  rw [this]; rfl
theorem letter_any (c : UInt8) (hc : c = 98 ∨ c = 111 ∨ c = 36 ∨ c = 33) (w : World) : (convert 5 9 (.int .u8 (c.toNat : Int))).run Tryd.prog w = .ok (.string (str [c])) w := by
  rcases hc with rfl | rfl | rfl | rfl <;> kernel_rfl
theorem line_any {w : World} {B b : Nat} {txt : List UInt8} {col : Int} (h : Wr w B b txt col) (hlen : txt.length + 1 ≤ 140737488355328) :
    Calls Tryd.prog 23 #[.pointer (some ⟨b, 0, none⟩), .int .u8 10] w fun e w' => e = .returned .nilIface ∧ Wr w' B b (txt ++ [10]) col ∧ Below B w w' := wbyte_any h 10 hlen
def PutPost (w : World) (B b : Nat) (st : List UInt8 × Nat) (e : Ending) (w' : World) : Prop :=
  e = .returned (.tuple #[]) ∧ Wr w' B b st.1 (st.2 : Int) ∧ Below B w w'
set_option maxRecDepth 100000 in
set_option maxHeartbeats 1600000 in
theorem put_any {w : World} {B b : Nat} {txt : List UInt8} {col : Nat} (h : Wr w B b txt (col : Int)) (hg : RlG B w) (hB : B ≤ w.heap.size) (n : Nat) (hn : n < 10000000000000) (c : UInt8) (hc : c = 98 ∨ c = 111 ∨ c = 36 ∨ c = 33) (hcol : col ≤ 100) (hlen : txt.length ≤ 1000000000) :
    Calls Tryd.prog 22 #[.pointer (some ⟨b, 0, none⟩), .int .i64 (n : Int), .int .u8 (c.toNat : Int)] w (PutPost w B b (layP (txt, col) (n, c))) := by
  have H := Lib.hid h
  have HG := Lib.hid hg
  have HB0 := Lib.hid hB
  have HLT := Lib.hid (letter_any c hc)
  have HPL : Hid ((pieceP (n, c)).length ≤ 14) := by
    show _ ≤ _
    unfold pieceP
    dsimp only
    have := decD_len 12 n (by omega)
    split
    · rw [List.length_append, List.length_singleton]; omega
    · simp
  clear h hg hc hB
  by_cases h0 : n = 0
  · have HL : Hid (layP (txt, col) (n, c) = (txt, col)) := if_pos h0
    subst h0
    go_enter Tryd.func22, Tryd.ntmps22
    go_wp2_with fail
    go_end0
    exact ⟨rfl, by rw [HL.out]; exact H.out, Below.refl _ _⟩
  have HL : Hid (layP (txt, col) (n, c) = if 70 < col + (pieceP (n, c)).length then (txt ++ 10 :: pieceP (n, c), (pieceP (n, c)).length) else (txt ++ pieceP (n, c), col + (pieceP (n, c)).length)) := if_neg h0
  have hn0 : ((n : Int) == 0) = false := by simpa using h0
  have hn1 : 0 < (n : Int) := by omega
  have e1 := HLT.out w
  by_cases h1 : 1 < n
  · have HP : Hid (pieceP (n, c) = Lib.decDigits n ++ [c]) := by show _ = _; unfold pieceP; rw [if_pos h1]
    have hn2 : 1 < (n : Int) := by omega
    have HDL : Hid ((Lib.decDigits n).length ≤ 13) := decD_len 12 n (by omega)
    have HIT := Lib.hid (itoa_any w n hn HG.out)
    generalize hpp : pieceP (n, c) = P at *
    generalize Lib.decDigits n = D at *
    have HE2 : Hid (∀ w : World, (Op.stringOp .add (str D) (str [c])).run Tryd.prog w = .ok (.string (str P)) w) := fun w => by
      rw [HP.out, ← str_append, run_string_add_sum w _ _ (by rw [str_size, str_size]; have := HDL.out; simp; omega)]
    have hpl := HPL.out
    have hz : ((str P).size : Int) = (P.length : Int) := by rw [str_size]
    clear hpp hn0 h0 h1
    go_enter Tryd.func22, Tryd.ntmps22
    go_wp2_with fail
    (with_reducible refine HIT.out.mono ?_)
    rintro e wx ⟨rfl, hbx⟩
    have HWX := Lib.hid (H.out.mod hbx)
    have HBX := Lib.hid (hbx.mono HB0.out)
    have e2 := HE2.out wx
    clear hbx e1
    obtain ⟨c2, f2, hlt, hBb⟩ := HWX.out.at2
    by_cases h2 : 70 < (col : Int) + (P.length : Int)
    · have HL2 : Hid (layP (txt, col) (n, c) = (txt ++ 10 :: P, P.length)) := HL.out.trans (if_pos (by omega))
      clear HL
      go_wp2_with fail
      (with_reducible refine (line_any HWX.out (by omega)).mono ?_)
      rintro e w2 ⟨rfl, hw2, hb2⟩
      have HB2 := Lib.hid (HBX.out.trans hb2)
      clear c2 f2 hlt hBb hb2
      obtain ⟨c2, f2, hlt, hBb⟩ := hw2.at2
      have HW3 := Lib.hid (hw2.set2 0)
      have HB3 : Hid (Below B w (w2.setCell ⟨b, 2, none⟩ (.int .i64 0))) := HB2.out.setCell (p := ⟨b, 2, none⟩) hBb _
      clear hw2
      go_wp2_with fail
      (with_reducible refine (wstr_any HW3.out P (by rw [List.length_append, List.length_singleton]; omega)).mono ?_)
      rintro e w4 ⟨rfl, hw4, hb4⟩
      clear c2 f2 hlt
      obtain ⟨c2, f2, hlt, _⟩ := hw4.at2
      have HW5 := Lib.hid (hw4.set2 (P.length : Int))
      have HB5 : Hid (Below B w (w4.setCell ⟨b, 2, none⟩ (.int .i64 (P.length : Int)))) := (HB3.out.trans hb4).setCell (p := ⟨b, 2, none⟩) hBb _
      clear hw4 hb4
      go_wp2_with fail
      go_end0
      refine ⟨rfl, ?_, HB5.out⟩
      rw [HL2.out, List.append_cons]
      exact HW5.out
    · have HL2 : Hid (layP (txt, col) (n, c) = (txt ++ P, col + P.length)) := HL.out.trans (if_neg (by omega))
      clear HL
      go_wp2_with fail
      (with_reducible refine (wstr_any HWX.out P (by omega)).mono ?_)
      rintro e w4 ⟨rfl, hw4, hb4⟩
      clear c2 f2 hlt
      obtain ⟨c2, f2, hlt, _⟩ := hw4.at2
      have HW5 := Lib.hid (hw4.set2 ((col : Int) + (P.length : Int)))
      have HB5 : Hid (Below B w (w4.setCell ⟨b, 2, none⟩ (.int .i64 ((col : Int) + (P.length : Int))))) := (HBX.out.trans hb4).setCell (p := ⟨b, 2, none⟩) hBb _
      clear hw4 hb4
      go_wp2_with fail
      go_end0
      refine ⟨rfl, ?_, HB5.out⟩
      rw [HL2.out]
      exact HW5.out
  · have HP : Hid (pieceP (n, c) = [c]) := by show _ = _; unfold pieceP; rw [if_neg h1]; rfl
    have hn2 : ¬ 1 < (n : Int) := by omega
    generalize hpp : pieceP (n, c) = P at *
    have hpl := HPL.out
    have hz : ((str P).size : Int) = (P.length : Int) := by rw [str_size]
    rw [← HP.out] at e1
    have HWX := Lib.hid H.out
    have HBX := Lib.hid (Below.refl B w)
    clear hpp hn0 h0 h1
    go_enter Tryd.func22, Tryd.ntmps22
    obtain ⟨c2, f2, hlt, hBb⟩ := HWX.out.at2
    by_cases h2 : 70 < (col : Int) + (P.length : Int)
    · have HL2 : Hid (layP (txt, col) (n, c) = (txt ++ 10 :: P, P.length)) := HL.out.trans (if_pos (by omega))
      clear HL
      go_wp2_with fail
      (with_reducible refine (line_any HWX.out (by omega)).mono ?_)
      rintro e w2 ⟨rfl, hw2, hb2⟩
      have HB2 := Lib.hid (HBX.out.trans hb2)
      clear c2 f2 hlt hBb hb2
      obtain ⟨c2, f2, hlt, hBb⟩ := hw2.at2
      have HW3 := Lib.hid (hw2.set2 0)
      have HB3 : Hid (Below B w (w2.setCell ⟨b, 2, none⟩ (.int .i64 0))) := HB2.out.setCell (p := ⟨b, 2, none⟩) hBb _
      clear hw2
      go_wp2_with fail
      (with_reducible refine (wstr_any HW3.out P (by rw [List.length_append, List.length_singleton]; omega)).mono ?_)
      rintro e w4 ⟨rfl, hw4, hb4⟩
      clear c2 f2 hlt
      obtain ⟨c2, f2, hlt, _⟩ := hw4.at2
      have HW5 := Lib.hid (hw4.set2 (P.length : Int))
      have HB5 : Hid (Below B w (w4.setCell ⟨b, 2, none⟩ (.int .i64 (P.length : Int)))) := (HB3.out.trans hb4).setCell (p := ⟨b, 2, none⟩) hBb _
      clear hw4 hb4
      go_wp2_with fail
      go_end0
      refine ⟨rfl, ?_, HB5.out⟩
      rw [HL2.out, List.append_cons]
      exact HW5.out
    · have HL2 : Hid (layP (txt, col) (n, c) = (txt ++ P, col + P.length)) := HL.out.trans (if_neg (by omega))
      clear HL
      go_wp2_with fail
      (with_reducible refine (wstr_any HWX.out P (by omega)).mono ?_)
      rintro e w4 ⟨rfl, hw4, hb4⟩
      clear c2 f2 hlt
      obtain ⟨c2, f2, hlt, _⟩ := hw4.at2
      have HW5 := Lib.hid (hw4.set2 ((col : Int) + (P.length : Int)))
      have HB5 : Hid (Below B w (w4.setCell ⟨b, 2, none⟩ (.int .i64 ((col : Int) + (P.length : Int))))) := (HBX.out.trans hb4).setCell (p := ⟨b, 2, none⟩) hBb _
      clear hw4 hb4
      go_wp2_with fail
      go_end0
      refine ⟨rfl, ?_, HB5.out⟩
      rw [HL2.out]
      exact HW5.out
end Go.Proofs.YtlcjadgaommfmaaDoor
