/- frame.Wrap: the walk. -/
import Derived.Test.YtkandepkojfblaaDoorBuild
import Derived.Deep.DeepCutAuto
import Derived.BigQuiet
import Derived.Lib.BufferWrite
import Derived.Laws.Concat
namespace Go.Proofs.YtkandepkojfblaaDoor
open Go.RowKit

/-- One frame. -/
def frameOf (more : Bool) (p : List UInt8) : List UInt8 := (if more then 1 else 0) :: UInt8.ofNat p.length :: (p ++ List.replicate (126 - p.length) 0)
def wrapL (s : List UInt8) : List UInt8 := if h : s.length ≤ 126 then frameOf false s else frameOf true (s.take 126) ++ wrapL (s.drop 126)
  termination_by s.length
  decreasing_by simp; omega
theorem frameOf_len {more : Bool} {p : List UInt8} (h : p.length ≤ 126) : (frameOf more p).length = 128 := by
  unfold frameOf; simp; omega
theorem wrapL_len : ∀ (n : Nat) (s : List UInt8), s.length ≤ n → (wrapL s).length ≤ 128 * (n + 1)
  | 0, s, h => by rw [wrapL, dif_pos (by omega), frameOf_len (by omega)]; omega
  | n + 1, s, h => by
    rw [wrapL]
    split
    · rename_i h1; rw [frameOf_len h1]; omega
    · rename_i h1
      have := wrapL_len n (s.drop 126) (by rw [List.length_drop]; omega)
      rw [List.length_append, frameOf_len (by rw [List.length_take]; omega)]
      omega

theorem builder_kept {T e : TypeId} {B b : Nat} {bs : List Value} {w w' : World} (h : Lib.IsBuilder T e B b bs w) (hb : Below w.heap.size w w') : Lib.IsBuilder T e B b bs w' := by
  have hg : w.grownBy w' none := ⟨hb.os, hb.tape, hb.output, hb.size, fun k hk _ => hb.block k hk⟩
  have key : ∀ p, Lib.BuilderAt T e B b p bs w → Lib.BuilderAt T e B b p bs w' := fun p ⟨h1, v, h2, h3, h4⟩ => by
    have hlt : b < w.heap.size := Lib.BuilderAt.lt ⟨h1, v, h2, h3, h4⟩
    refine ⟨h1, v, (hb.block b hlt).trans h2, h3.kept hg ?_, h4⟩
    cases hv : v.ownBlock with
    | none => exact .inl rfl
    | some k => exact .inr (by simp)
  exact h.elim (fun h => .inl (key _ h)) (fun h => .inr (key _ h))
theorem builder_write_n (B b : Nat) (l : List UInt8) (w : World) (h : Lib.IsBuilder BT U8 B b (Lib.byteCells l) w) (hB : B ≤ w.heap.size) (fb : Nat) (N c : Nat) (news : List UInt8) (hN : news.length = N) (hne : fb ≠ b) (hn : Blk w fb U8 (Lib.byteCells news).toArray) (hlen : l.length + N ≤ 140737488355328) (hc : c ≤ maxLen) (Ni : Int) (hNi : Ni = N) :
    Calls Tryd.prog 15 #[.pointer (some ⟨b, 0, none⟩), .slice (some ⟨fb, 0, none⟩) N c] w fun e w' => e = .returned (.tuple #[.int .i64 Ni, .nilIface]) ∧ Lib.IsBuilder BT U8 B b (Lib.byteCells (l ++ news)) w' ∧ Below B w w' := by
  subst hN hNi
  exact builder_write B b l w h hB fb 0 c news hne (fun j u hj => by rw [Nat.zero_add, hn.cell]; simpa using hj) hlen hc
theorem zeros_list : (madeCells #[Value.int .u8 0] 128).toList = .int .u8 0 :: .int .u8 0 :: List.replicate 126 (.int .u8 0) := by kernel_rfl
theorem zeros_get0 : (madeCells #[Value.int .u8 0] 128)[0]? = some (.int .u8 0) := by rw [← Array.getElem?_toList, zeros_list]; rfl
theorem zeros_get1 : (madeCells #[Value.int .u8 0] 128)[1]? = some (.int .u8 0) := by rw [← Array.getElem?_toList, zeros_list]; rfl
theorem set_two {Z : Array Value} {a b x y : Value} {r : List Value} (h : Z.toList = a :: b :: r) : ((Z.setIfInBounds 0 x).setIfInBounds 1 y).toList = x :: y :: r := by
  rw [Array.toList_setIfInBounds, Array.toList_setIfInBounds, h]; rfl
theorem set_one {Z : Array Value} {a b y : Value} {r : List Value} (h : Z.toList = a :: b :: r) : (Z.setIfInBounds 1 y).toList = a :: y :: r := by
  rw [Array.toList_setIfInBounds, h]; rfl
theorem frame_cells (more : Bool) (p : List UInt8) (hp : p.length ≤ 126) (cur : Array Value) (hc : cur.toList = .int .u8 (if more then 1 else 0) :: .int .u8 p.length :: List.replicate 126 (.int .u8 0)) :
    cur.toList.take 2 ++ Lib.byteCells p ++ cur.toList.drop (2 + p.length) = Lib.byteCells (frameOf more p) := by
  rw [hc]
  have h1 : ((UInt8.ofNat p.length).toNat : Int) = p.length := by rw [UInt8.toNat_ofNat']; omega
  unfold frameOf Lib.byteCells
  rw [show 2 + p.length = p.length + 1 + 1 by omega, List.drop_succ_cons, List.drop_succ_cons, List.drop_replicate]
  simp only [List.take_succ_cons, List.take_zero, List.map_cons, List.map_append, List.map_replicate, h1]
  cases more <;> simp

theorem copy_frame (w : World) (F : Nat) (more : Bool) (p : List UInt8) (hp : p.length ≤ 126) (cur : Array Value) (hb : Blk w F U8 cur) (hc : cur.toList = .int .u8 (if more then 1 else 0) :: .int .u8 p.length :: List.replicate 126 (.int .u8 0)) (ty : TypeId) :
    ∃ w', (Builtin.copy_ #[43, 9] ty #[.slice (some ⟨F, 2, none⟩) 126 126, .string (str p)]).run Tryd.prog w = .ok (.int .i64 p.length) w' ∧ Blk w' F U8 (Lib.byteCells (frameOf more p)).toArray ∧ Mod (fun k => k = F) w w' := by
  have hsz : cur.size = 128 := by rw [← Array.length_toList, hc]; simp
  have h := Lib.run_copy_row_string (P := Tryd.prog) w 43 9 ty 5 F 2 126 126 (str p) cur U8 Tryd.underlying43 (by kernel_rfl) hb (by rw [str_size]; exact hp) (by rw [str_size, hsz]; omega)
  rw [str_size] at h
  have e : (cur.toList.take 2 ++ Lib.byteCells (str p).data.toList ++ cur.toList.drop (2 + p.length)) = Lib.byteCells (frameOf more p) := by
    rw [← frame_cells more p hp cur hc]
    simp [str]
  rw [e] at h
  exact ⟨_, h, setRow_heap w F cur _ U8 (0, 0) hb, ⟨rfl, rfl, rfl, by simp, fun k _ hk => setRow_other w F k _ hk⟩⟩

def WrapPost (w : World) (s : List UInt8) (e : Ending) (w' : World) : Prop := e = .returned (.string (str (wrapL s))) ∧ Below w.heap.size w w'

def boolOf : Value → Bool
  | .bool b => b
  | _ => false
def strLen : Value → Nat
  | .string s => s.size
  | _ => 0

set_option maxRecDepth 100000 in
set_option maxHeartbeats 3200000 in
theorem wrap_any (w : World) (s0 : List UInt8) (hs0 : s0.length ≤ 1100000) :
    Calls Tryd.prog 7 #[.string (str s0)] w (WrapPost w s0) := by
  have HLEN := Lib.hid (wrapL_len _ s0 (Nat.le_refl _))
  have HW : Hid (∀ s : List UInt8, wrapL s = if h : s.length ≤ 126 then frameOf false s else frameOf true (s.take 126) ++ wrapL (s.drop 126)) := fun s => wrapL.eq_1 s
  have HPOST : Hid (∀ e w', (e = Ending.returned (.string (str (wrapL s0))) ∧ Below w.heap.size w w') → WrapPost w s0 e w') := fun _ _ h => h
  have HT : Hid (wrapL s0 = wrapL s0) := rfl
  generalize hTT : wrapL s0 = T at HLEN HPOST HT
  have HTT := Lib.hid hTT
  clear hTT HT
  have hTl : T.length ≤ 141000000 := by have := HLEN.out; omega
  have hmk : ∀ W : World, (Instr.makeSlice 43 (.int .i64 128) (.int .i64 128)).run Tryd.prog W = .ok (.slice (some ⟨W.heap.size, 0, none⟩) 128 128) (W.alloc (.cells (madeCells #[.int .u8 0] 128) U8)) := fun W => run_make_row' (P := Tryd.prog) 43 5 (.int .u8 0) 1 Tryd.underlying43 Tryd.info5 rfl .i64 .i64 128 (by omega) (by omega) W
  go_enter Tryd.func7, Tryd.ntmps7
  go_wp2_with fail
  go_loopw [0, 4] (fun sv mv wx => ∃ (s acc : List UInt8) (more : Bool), sv = .string (str s) ∧ mv = .bool more ∧ Lib.IsBuilder BT U8 w.heap.size w.heap.size (Lib.byteCells acc) wx ∧ (more = true → acc ++ wrapL s = T) ∧ (more = false → acc = T) ∧ s.length ≤ 1100000 ∧ acc.length ≤ T.length ∧ Below w.heap.size w wx ∧ w.heap.size < wx.heap.size) (fun sv mv _ => if boolOf mv then strLen sv + 1 else 0)
  case atStart =>
    refine ⟨s0, [], true, rfl, rfl, .inl ⟨Nat.le_refl _, .slice none 0 0, Blk.new w _ _, World.ownsRow_nil _ _ _ _, by simp [Value.ownBlock]⟩, (fun _ => by rw [HTT.out]; rfl), (fun h => by cases h), hs0, Nat.zero_le _, (Below.refl _ _).alloc (Nat.le_refl _) _, by rw [World.size_alloc]; omega⟩
  case round =>
    obtain ⟨s, acc, more, rfl, rfl, hbd, hm1, hm2, hsl, hal, hb, hlt⟩ := hrel
    have HBD := Lib.hid hbd
    have HB := Lib.hid hb
    cases more
    · have HM := Lib.hid (hm2 rfl)
      clear hm1 hm2 hbd hb
      go_wp2_with fail
      (with_reducible refine (Tryd.Builder_String_any _ _ acc _ HBD.out (Nat.le_of_lt hlt)).mono ?_)
      rintro e w2 ⟨rfl, hb2⟩
      have HB2 : Hid (Below w.heap.size w w2) := HB.out.trans hb2
      clear hb2
      go_wp2
      go_ret
      exact HPOST.out _ _ ⟨by rw [← HM.out]; rfl, HB2.out⟩
    · have HM := Lib.hid (hm1 rfl)
      clear hm1 hm2 hbd hb
      have hsz : ((str s).size : Int) = (s.length : Int) := by rw [str_size]
      by_cases hbig : (126 : Int) < (s.length : Int)
      · have hmin : min (s.length : Int) 126 = 126 := by omega
        go_upto_region 7 with fail
        generalize hw1 : World.alloc wr _ = w1
        have HBF : Hid (Blk w1 wr.heap.size U8 (madeCells #[.int .u8 0] 128)) := by subst hw1; exact Blk.new wr _ _
        have HB1 : Hid (Below wr.heap.size wr w1) := by subst hw1; exact (Below.refl _ _).alloc (Nat.le_refl _) _
        have HKEEP : Hid (∀ w', Below wr.heap.size wr w' → Lib.IsBuilder BT U8 w.heap.size w.heap.size (Lib.byteCells acc) w') := fun w' h => builder_kept HBD.out h
        have HKB : Hid (∀ w', Below wr.heap.size wr w' → Below w.heap.size w w' ∧ wr.heap.size ≤ w'.heap.size) := fun w' h => ⟨HB.out.trans (h.mono (Nat.le_of_lt hlt)), h.size⟩
        clear hw1 HBD HB
        have hF : w.heap.size < wr.heap.size := hlt
        generalize wr.heap.size = F at *
        have c0 : w1.cell? ⟨F, 0, none⟩ = some (.int .u8 0) := HBF.out.cellS zeros_get0
        have c1 : w1.cell? ⟨F, 1, none⟩ = some (.int .u8 0) := HBF.out.cellS zeros_get1
        have f0 := HBF.out.frozen 0
        have f1 := HBF.out.frozen 1
        have het := str_take s 126
        have hpl : (s.take 126).length = 126 := by rw [List.length_take]; omega
        have HWE : Hid (wrapL s = frameOf true (s.take 126) ++ wrapL (s.drop 126)) := by show _ = _; rw [HW.out, dif_neg (by omega)]
        have HDR : Hid ((str s).extract 126 (str s).size = str (s.drop 126)) := str_drop s 126
        have HDL : Hid ((s.drop 126).length + 126 = s.length) := by show _ = _; rw [List.length_drop]; omega
        go_upto_region 10 with fail
        generalize hw2 : World.setCell (World.setCell w1 _ _) _ _ = w2
        have HB2 : Hid (Blk w2 F U8 (((madeCells #[.int .u8 0] 128).setIfInBounds 0 (.int .u8 1)).setIfInBounds 1 (.int .u8 126))) := by subst hw2; exact (HBF.out.set 0 _).set 1 _
        have HM2 : Hid (Mod (fun k => k = F) w1 w2) := by subst hw2; exact ((Mod.refl (fun k => k = F) w1).set (p := ⟨F, 0, none⟩) (fun _ => rfl) _).set (p := ⟨F, 1, none⟩) (fun _ => rfl) _
        clear hw2 c0 c1 f0 f1
        generalize s.take 126 = p at *
        generalize s.drop 126 = r at *
        obtain ⟨w3, hcp, hb3, hm3⟩ := copy_frame w2.drew F true p (by omega) _ HB2.out (by rw [set_two zeros_list, hpl]; rfl) 3
        go_region
        have hbel : Below F wr w3 := HB1.out.trans (((HM2.out.below (by have := HBF.out.lt; omega) (fun k hk e => by omega)).drew).trans (hm3.below (by have := HB2.out.lt; show F ≤ w2.heap.size; omega) (fun k hk e => by omega)))
        have HKD := Lib.hid (HKEEP.out _ hbel)
        have HKW := Lib.hid (HKB.out _ hbel)
        have HB3 := Lib.hid hb3
        have hlt3 : F < w3.heap.size := hb3.lt
        have HAL : Hid (acc.length + 128 ≤ T.length) := by
          have e := HM.out
          rw [HWE.out] at e
          show _ ≤ _
          rw [← e]; simp only [List.length_append, frameOf_len (show p.length ≤ 126 by omega)]; omega
        have hal3 := HAL.out
        clear hcp hb3 hm3 hbel HB2 HM2 HBF HB1 HKEEP HKB het
        go_wp2_with fail
        (with_reducible refine (builder_write_n _ _ acc w3 HKD.out (by omega) F 128 128 (frameOf true p) (frameOf_len (by omega)) (by omega) HB3.out (by omega) (by unfold maxLen; omega) 128 rfl).mono ?_)
        rintro e w4 ⟨rfl, hbd4, hb4⟩
        have HBD4 := Lib.hid hbd4
        have HB4 : Hid (Below w.heap.size w w4) := HKW.out.1.trans hb4
        have hz4 : w.heap.size < w4.heap.size := by have := hb4.size; omega
        have hdr := HDR.out
        clear hbd4 hb4 hal3
        go_wp2_with fail
        clear hdr
        go_roundw
        case rel => exact ⟨r, acc ++ frameOf true p, true, rfl, rfl, HBD4.out, (fun _ => by rw [List.append_assoc, ← HWE.out]; exact HM.out), (fun h => by cases h), by have := HDL.out; omega, by rw [List.length_append, frameOf_len (by omega)]; exact HAL.out, HB4.out, hz4⟩
        case measure => have := HDL.out; simp [boolOf, strLen, str_size]; omega
      · have hmin : min (s.length : Int) 126 = (s.length : Int) := by omega
        have hsm : (s.length : Int) ≤ 126 := by omega
        go_upto_region 7 with fail
        generalize hw1 : World.alloc wr _ = w1
        have HBF : Hid (Blk w1 wr.heap.size U8 (madeCells #[.int .u8 0] 128)) := by subst hw1; exact Blk.new wr _ _
        have HB1 : Hid (Below wr.heap.size wr w1) := by subst hw1; exact (Below.refl _ _).alloc (Nat.le_refl _) _
        have HKEEP : Hid (∀ w', Below wr.heap.size wr w' → Lib.IsBuilder BT U8 w.heap.size w.heap.size (Lib.byteCells acc) w') := fun w' h => builder_kept HBD.out h
        have HKB : Hid (∀ w', Below wr.heap.size wr w' → Below w.heap.size w w' ∧ wr.heap.size ≤ w'.heap.size) := fun w' h => ⟨HB.out.trans (h.mono (Nat.le_of_lt hlt)), h.size⟩
        clear hw1 HBD HB
        have hF : w.heap.size < wr.heap.size := hlt
        generalize wr.heap.size = F at *
        have c0 : w1.cell? ⟨F, 0, none⟩ = some (.int .u8 0) := HBF.out.cellS zeros_get0
        have c1 : w1.cell? ⟨F, 1, none⟩ = some (.int .u8 0) := HBF.out.cellS zeros_get1
        have f0 := HBF.out.frozen 0
        have f1 := HBF.out.frozen 1
        have het : (str s).extract 0 s.length = str s := by rw [str_take, List.take_of_length_le (Nat.le_refl _)]
        have HWE : Hid (wrapL s = frameOf false s) := by show _ = _; rw [HW.out, dif_pos (by omega)]
        have HDR : Hid ((str s).extract s.length (str s).size = str []) := by show _ = _; rw [str_drop, List.drop_of_length_le (Nat.le_refl _)]
        go_upto_region 10 with fail
        generalize hw2 : World.setCell w1 _ _ = w2
        have HB2 : Hid (Blk w2 F U8 ((madeCells #[.int .u8 0] 128).setIfInBounds 1 (.int .u8 s.length))) := by subst hw2; exact HBF.out.set 1 _
        have HM2 : Hid (Mod (fun k => k = F) w1 w2) := by subst hw2; exact (Mod.refl (fun k => k = F) w1).set (p := ⟨F, 1, none⟩) (fun _ => rfl) _
        clear hw2 c0 c1 f0 f1
        obtain ⟨w3, hcp, hb3, hm3⟩ := copy_frame w2.drew F false s (by omega) _ HB2.out (by rw [set_one zeros_list]; rfl) 3
        go_region
        have hbel : Below F wr w3 := HB1.out.trans (((HM2.out.below (by have := HBF.out.lt; omega) (fun k hk e => by omega)).drew).trans (hm3.below (by have := HB2.out.lt; show F ≤ w2.heap.size; omega) (fun k hk e => by omega)))
        have HKD := Lib.hid (HKEEP.out _ hbel)
        have HKW := Lib.hid (HKB.out _ hbel)
        have HB3 := Lib.hid hb3
        have hlt3 : F < w3.heap.size := hb3.lt
        have HAL : Hid (acc.length + 128 ≤ T.length) := by
          have e := HM.out
          rw [HWE.out] at e
          show _ ≤ _
          rw [← e]; simp only [List.length_append, frameOf_len (show s.length ≤ 126 by omega)]; omega
        have hal3 := HAL.out
        clear hcp hb3 hm3 hbel HB2 HM2 HBF HB1 HKEEP HKB het
        go_wp2_with fail
        (with_reducible refine (builder_write_n _ _ acc w3 HKD.out (by omega) F 128 128 (frameOf false s) (frameOf_len (by omega)) (by omega) HB3.out (by omega) (by unfold maxLen; omega) 128 rfl).mono ?_)
        rintro e w4 ⟨rfl, hbd4, hb4⟩
        have HBD4 := Lib.hid hbd4
        have HB4 : Hid (Below w.heap.size w w4) := HKW.out.1.trans hb4
        have hz4 : w.heap.size < w4.heap.size := by have := hb4.size; omega
        have hdr := HDR.out
        clear hbd4 hb4 hal3
        go_wp2_with fail
        clear hdr
        go_roundw
        case rel => exact ⟨[], acc ++ frameOf false s, false, rfl, rfl, HBD4.out, (fun h => by cases h), (fun _ => by have e := HM.out; rw [HWE.out] at e; exact e), by simp, by rw [List.length_append, frameOf_len (by omega)]; exact HAL.out, HB4.out, hz4⟩
        case measure => simp [boolOf, strLen, str_size]
end Go.Proofs.YtkandepkojfblaaDoor
