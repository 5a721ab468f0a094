/- speech.Read: the walk. -/
import Derived.Test.YtkandepkojfblaaDoorSpBody
import Derived.Deep.CutBlock
import Derived.Deep.DeepCutAuto
namespace Go.Proofs.YtkandepkojfblaaDoor
open Go.RowKit

/-- A request as a value. -/
def reqV (q : SReq) (v : Value) : Value := .agg #[.int .i64 q.verb, .string (str q.name), .string (str q.other), .int .i64 q.b, .int .i64 q.l, .int .i64 q.n, v]
def ReadSPost (w : World) (line : List UInt8) (e : Ending) (w' : World) : Prop :=
  ∃ v, e = .returned (.tuple #[reqV (readS readR line).1 v, .int .i64 (readS readR line).2]) ∧ Sl w' 57 2 v (readS readR line).1.cells.length (flat (readS readR line).1.cells) ∧ (∀ b, sblk v = some b → w.heap.size ≤ b) ∧ Below w.heap.size w w'
theorem strW_eq (l : List (List UInt8)) : (l.map str).map Value.string = strW l := by simp [strW]
theorem split_words (w : World) (m : Int) (hm : w.cell? ⟨4, 0, none⟩ = some (.int .i64 m)) (l : List UInt8) (hl : l.length ≤ 1000000) :
    Calls Tryd.prog 22 #[.string (str l), .string ⟨#[32]⟩] w fun e w' => e = .returned (.slice (some ⟨w.heap.size, 0, none⟩) (splitB l).length (splitB l).length) ∧ w' = w.alloc (.cells (strW (splitB l)).toArray 9) := by
  refine (Tryd.strings_Split (str l) ⟨#[32]⟩ m w (by rw [str_size]; omega) hm (by decide)).mono ?_
  rintro e w' ⟨rfl, rfl⟩
  have h := split_blanks _ l rfl
  have hn : Lib.countB (str l) (str [32]) + 1 = (splitB l).length := by
    have e := congrArg List.length h
    rw [List.length_map] at e
    rw [← e]
    exact (Lib.splitB_all (str [32]) (by decide) 0 _ _ rfl).symm
  have h32 : (⟨#[32]⟩ : ByteArray) = str [32] := rfl
  rw [h32, h, strW_eq, hn]
  exact ⟨rfl, rfl⟩
/-- The reader's block, as it is made. -/
theorem Wd.start (w : World) (l : List UInt8) (hl : (splitB l).length ≤ maxLen) : Wd ((w.alloc (.cells (strW (splitB l)).toArray 9)).alloc (.cells #[.slice (some ⟨w.heap.size, 0, none⟩) (splitB l).length (splitB l).length, .bool false] 62)) (w.heap.size + 1) (splitB l) false := by
  have hr := Rd.fresh w 9 (strW (splitB l)).toArray 1 (splitB l).length (by simp [strW]) hl
  have hb := Blk.new (w.alloc (.cells (strW (splitB l)).toArray 9)) 62 #[.slice (some ⟨w.heap.size, 0, none⟩) (splitB l).length (splitB l).length, .bool false]
  rw [World.size_alloc] at hb
  refine ⟨⟨_, w.heap.size + 1, hb, ?_, Nat.le_refl _⟩, by simp⟩
  have h2 := hr.keep (w' := (w.alloc (.cells (strW (splitB l)).toArray 9)).alloc (.cells #[.slice (some ⟨w.heap.size, 0, none⟩) (splitB l).length (splitB l).length, .bool false] 62)) fun b hb => Below.heap_alloc _ _ _ (by rw [World.size_alloc]; exact hb)
  exact h2

/-- Behind the switch. -/
def MidS (w : World) (n : Nat) (line : List UInt8) (wx : World) : Prop :=
  ∃ q rest bad v, readS readR line = endS bad rest q ∧ Wd wx (n + 1 + 1) rest bad ∧ Blk wx (n + 1 + 1 + 1) 34 #[.int .i64 q.verb, .string (str q.name), .string (str q.other), .int .i64 q.b, .int .i64 q.l, .int .i64 q.n, v] ∧ Blk wx n 34 #[.int .i64 0, .string ⟨#[]⟩, .string ⟨#[]⟩, .int .i64 0, .int .i64 0, .int .i64 0, .slice none 0 0] ∧ Sl wx 57 2 v q.cells.length (flat q.cells) ∧ (∀ b, sblk v = some b → n ≤ b) ∧ Below n w wx
theorem mid_end {w wx : World} {n : Nat} {line : List UInt8} {rest : List (List UInt8)} {bad : Bool} (k : Int) (nm ot : List UInt8) (b l nn : Int) (cs : List (Int × Int)) (v : Value) (hS : readS readR line = endS bad rest ⟨k, nm, ot, b, l, nn, cs⟩)
    (hw : Wd wx (n + 1 + 1) rest bad) (hq : Blk wx (n + 1 + 1 + 1) 34 #[.int .i64 0, .string ⟨#[]⟩, .string ⟨#[]⟩, .int .i64 0, .int .i64 0, .int .i64 0, .slice none 0 0]) (hr : Blk wx n 34 #[.int .i64 0, .string ⟨#[]⟩, .string ⟨#[]⟩, .int .i64 0, .int .i64 0, .int .i64 0, .slice none 0 0]) (hsl : Sl wx 57 2 v cs.length (flat cs)) (hf : ∀ b, sblk v = some b → n ≤ b) (hb : Below n w wx) :
    MidS w n line (((((((wx.setCell ⟨n + 1 + 1 + 1, 0, none⟩ (.int .i64 k)).setCell ⟨n + 1 + 1 + 1, 1, none⟩ (.string (str nm))).setCell ⟨n + 1 + 1 + 1, 2, none⟩ (.string (str ot))).setCell ⟨n + 1 + 1 + 1, 3, none⟩ (.int .i64 b)).setCell ⟨n + 1 + 1 + 1, 4, none⟩ (.int .i64 l)).setCell ⟨n + 1 + 1 + 1, 5, none⟩ (.int .i64 nn)).setCell ⟨n + 1 + 1 + 1, 6, none⟩ v) := by
  have hne := hsl.ne hq (by decide)
  have hl : n ≤ n + 1 + 1 + 1 := by omega
  have hq7 := ((((((hq.set 0 (.int .i64 k)).set 1 (.string (str nm))).set 2 (.string (str ot))).set 3 (.int .i64 b)).set 4 (.int .i64 l)).set 5 (.int .i64 nn)).set 6 v
  have hp : ∀ i : Nat, (⟨n + 1 + 1 + 1, i, none⟩ : Addr).block ≠ n + 1 + 1 ∧ ∀ B, B ≤ n + 1 + 1 → B ≤ (⟨n + 1 + 1 + 1, i, none⟩ : Addr).block := fun i => ⟨by show n + 1 + 1 + 1 ≠ _; omega, fun B hB => by show B ≤ n + 1 + 1 + 1; omega⟩
  have hnn : n ≠ n + 1 + 1 + 1 := by omega
  refine ⟨⟨k, nm, ot, b, l, nn, cs⟩, rest, bad, v, hS, ((((((hw.far _ (hp 0) _).far _ (hp 1) _).far _ (hp 2) _).far _ (hp 3) _).far _ (hp 4) _).far _ (hp 5) _).far _ (hp 6) _, hq7,
    ((((((hr.far (p := ⟨n + 1 + 1 + 1, 0, none⟩) hnn _).far (p := ⟨n + 1 + 1 + 1, 1, none⟩) hnn _).far (p := ⟨n + 1 + 1 + 1, 2, none⟩) hnn _).far (p := ⟨n + 1 + 1 + 1, 3, none⟩) hnn _).far (p := ⟨n + 1 + 1 + 1, 4, none⟩) hnn _).far (p := ⟨n + 1 + 1 + 1, 5, none⟩) hnn _).far (p := ⟨n + 1 + 1 + 1, 6, none⟩) hnn _,
    ((((((hsl.far (p := ⟨n + 1 + 1 + 1, 0, none⟩) hne _).far (p := ⟨n + 1 + 1 + 1, 1, none⟩) hne _).far (p := ⟨n + 1 + 1 + 1, 2, none⟩) hne _).far (p := ⟨n + 1 + 1 + 1, 3, none⟩) hne _).far (p := ⟨n + 1 + 1 + 1, 4, none⟩) hne _).far (p := ⟨n + 1 + 1 + 1, 5, none⟩) hne _).far (p := ⟨n + 1 + 1 + 1, 6, none⟩) hne _, hf,
    ((((((hb.setCell (p := ⟨n + 1 + 1 + 1, 0, none⟩) hl _).setCell (p := ⟨n + 1 + 1 + 1, 1, none⟩) hl _).setCell (p := ⟨n + 1 + 1 + 1, 2, none⟩) hl _).setCell (p := ⟨n + 1 + 1 + 1, 3, none⟩) hl _).setCell (p := ⟨n + 1 + 1 + 1, 4, none⟩) hl _).setCell (p := ⟨n + 1 + 1 + 1, 5, none⟩) hl _).setCell (p := ⟨n + 1 + 1 + 1, 6, none⟩) hl _⟩

set_option maxRecDepth 100000 in
set_option maxHeartbeats 6400000 in
theorem readS_any (w : World) (m : Int) (hm : w.cell? ⟨4, 0, none⟩ = some (.int .i64 m)) (line : List UInt8) (hll : line.length ≤ 9223372036854775807) :
    Calls Tryd.prog 13 #[.string (str line)] w (ReadSPost w line) := by
  have hz : ((str line).size : Int) = (line.length : Int) := by rw [str_size]
  by_cases hlen : 6000 < line.length
  · have HF := Lib.hid (readS_long hlen)
    have hlen' : 6000 < (line.length : Int) := by omega
    clear hlen hm
    go_enter Tryd.func13, Tryd.ntmps13
    go_wp2_with fail
    refine bodyPost_ret (v := .tuple #[reqV zeroR (.slice none 0 0), .int .i64 1]) (by rw [results_cell_tmp rfl]; go_simp; rfl) rfl ?_
    exact ⟨.slice none 0 0, by rw [HF.out], by rw [HF.out]; exact Sl.nil _ _ _, fun b hb => by simp [sblk] at hb, (Below.refl _ _).alloc (Nat.le_refl _) _⟩
  have hlen' : ¬ 6000 < (line.length : Int) := by omega
  obtain ⟨hb1, hb2⟩ := splitB_bound line
  have HBN : Hid ((splitB line).length ≤ 6001) := by show _ ≤ _; omega
  have HBL : Hid (∀ x ∈ splitB line, x.length ≤ 6000) := fun x hx => by have := hb2 x hx; omega
  have HLE : Hid (line.length ≤ 6000) := by show _ ≤ _; omega
  have HSP := Lib.hid (fun w hm => split_words w m hm line (by omega))
  have HM0 := Lib.hid hm
  have HM : Hid ((w.alloc (.cells #[.int .i64 0, .string ⟨#[]⟩, .string ⟨#[]⟩, .int .i64 0, .int .i64 0, .int .i64 0, .slice none 0 0] 34)).cell? ⟨4, 0, none⟩ = some (.int .i64 m)) := (World.cell?_alloc_lt w _ (a := ⟨4, 0, none⟩) (World.block_lt_of_cell? w _ hm)).trans hm
  have HST := Lib.hid (fun w => Wd.start w line (by unfold maxLen; omega))
  have hne := splitB_ne line
  clear hlen hb1 hb2 hm hll
  go_enter Tryd.func13, Tryd.ntmps13
  go_wp2_with fail
  (with_reducible refine (HSP.out _ HM.out).mono ?_)
  rintro e w1 ⟨rfl, rfl⟩
  go_wp2_with fail
  obtain ⟨v0, ws, hsp⟩ : ∃ v0 ws, splitB line = v0 :: ws := by
    cases h : splitB line with
    | nil => exact absurd h hne
    | cons a b => exact ⟨a, b, rfl⟩
  have hst := (HST.out (w.alloc (.cells #[.int .i64 0, .string ⟨#[]⟩, .string ⟨#[]⟩, .int .i64 0, .int .i64 0, .int .i64 0, .slice none 0 0] 34))).below ((Below.refl _ _).alloc (Nat.le_refl _) (.cells #[.int .i64 0, .string ⟨#[]⟩, .string ⟨#[]⟩, .int .i64 0, .int .i64 0, .int .i64 0, .slice none 0 0] 34))
  have hb4 : Below w.heap.size w ((((w.alloc (.cells #[.int .i64 0, .string ⟨#[]⟩, .string ⟨#[]⟩, .int .i64 0, .int .i64 0, .int .i64 0, .slice none 0 0] 34)).alloc (.cells (strW (splitB line)).toArray 9)).alloc (.cells #[.slice (some ⟨w.heap.size + 1, 0, none⟩) (splitB line).length (splitB line).length, .bool false] 62)).alloc (.cells #[.int .i64 0, .string ⟨#[]⟩, .string ⟨#[]⟩, .int .i64 0, .int .i64 0, .int .i64 0, .slice none 0 0] 34)) :=
    ((((Below.refl _ _).alloc (Nat.le_refl _) _).alloc (by rw [World.size_alloc]; omega) _).alloc (by rw [World.size_alloc, World.size_alloc]; omega) _).alloc (by rw [World.size_alloc, World.size_alloc, World.size_alloc]; omega) _
  have hr4 : Blk ((((w.alloc (.cells #[.int .i64 0, .string ⟨#[]⟩, .string ⟨#[]⟩, .int .i64 0, .int .i64 0, .int .i64 0, .slice none 0 0] 34)).alloc (.cells (strW (splitB line)).toArray 9)).alloc (.cells #[.slice (some ⟨w.heap.size + 1, 0, none⟩) (splitB line).length (splitB line).length, .bool false] 62)).alloc (.cells #[.int .i64 0, .string ⟨#[]⟩, .string ⟨#[]⟩, .int .i64 0, .int .i64 0, .int .i64 0, .slice none 0 0] 34)) w.heap.size 34 #[.int .i64 0, .string ⟨#[]⟩, .string ⟨#[]⟩, .int .i64 0, .int .i64 0, .int .i64 0, .slice none 0 0] := (((Blk.new w _ _).alloc _).alloc _).alloc _
  have hq4 := Blk.new (((w.alloc (.cells #[.int .i64 0, .string ⟨#[]⟩, .string ⟨#[]⟩, .int .i64 0, .int .i64 0, .int .i64 0, .slice none 0 0] 34)).alloc (.cells (strW (splitB line)).toArray 9)).alloc (.cells #[.slice (some ⟨w.heap.size + 1, 0, none⟩) (splitB line).length (splitB line).length, .bool false] 62)) 34 #[.int .i64 0, .string ⟨#[]⟩, .string ⟨#[]⟩, .int .i64 0, .int .i64 0, .int .i64 0, .slice none 0 0]
  have hz4 : w.heap.size + 4 ≤ ((((w.alloc (.cells #[.int .i64 0, .string ⟨#[]⟩, .string ⟨#[]⟩, .int .i64 0, .int .i64 0, .int .i64 0, .slice none 0 0] 34)).alloc (.cells (strW (splitB line)).toArray 9)).alloc (.cells #[.slice (some ⟨w.heap.size + 1, 0, none⟩) (splitB line).length (splitB line).length, .bool false] 62)).alloc (.cells #[.int .i64 0, .string ⟨#[]⟩, .string ⟨#[]⟩, .int .i64 0, .int .i64 0, .int .i64 0, .slice none 0 0] 34)).heap.size := by
    simp [World.size_alloc]
  rw [World.size_alloc] at hst
  rw [World.size_alloc, World.size_alloc, World.size_alloc] at hq4
  generalize ((((w.alloc (.cells #[.int .i64 0, .string ⟨#[]⟩, .string ⟨#[]⟩, .int .i64 0, .int .i64 0, .int .i64 0, .slice none 0 0] 34)).alloc (.cells (strW (splitB line)).toArray 9)).alloc (.cells #[.slice (some ⟨w.heap.size + 1, 0, none⟩) (splitB line).length (splitB line).length, .bool false] 62)).alloc (.cells #[.int .i64 0, .string ⟨#[]⟩, .string ⟨#[]⟩, .int .i64 0, .int .i64 0, .int .i64 0, .slice none 0 0] 34)) = W4 at *
  have HB4 := Lib.hid hb4
  have HML : Hid (4 < w.heap.size) := World.block_lt_of_cell? w _ HM0.out
  rw [hsp] at hst HBN HBL
  have HSPL := Lib.hid hsp
  (with_reducible refine (word_any W4 _ _ _ hst).mono ?_)
  rintro e w5 ⟨rfl, hw5, hm5⟩
  have HW5 : Hid (Wd w5 (w.heap.size + 1 + 1) ws false) := hw5
  have HM5 : Hid (w5.cell? ⟨4, 0, none⟩ = some (.int .i64 m)) := (hm5.cell (a := ⟨4, 0, none⟩) (Nat.lt_of_lt_of_le HML.out hb4.size) (by have := HML.out; show 4 ≠ _; omega)).trans ((hb4.cell (p := ⟨4, 0, none⟩) HML.out).trans HM0.out)
  have HQ5 : Hid (Blk w5 (w.heap.size + 1 + 1 + 1) 34 #[.int .i64 0, .string ⟨#[]⟩, .string ⟨#[]⟩, .int .i64 0, .int .i64 0, .int .i64 0, .slice none 0 0]) := hq4.mod hm5 (by omega)
  have HR5 : Hid (Blk w5 w.heap.size 34 #[.int .i64 0, .string ⟨#[]⟩, .string ⟨#[]⟩, .int .i64 0, .int .i64 0, .int .i64 0, .slice none 0 0]) := hr4.mod hm5 (by omega)
  have HB5 : Hid (Below w.heap.size w w5) := hb4.trans (hm5.below hb4.size fun b hb e => by omega)
  have HZ5 : Hid (w.heap.size + 4 ≤ w5.heap.size) := Nat.le_trans hz4 hm5.size
  have hh : (v0 :: ws).headD [] = v0 := rfl
  rw [hh]
  clear hw5 hm5 hq4 hr4 hb4 hst hz4 HB4 HSP HST HM hsp hne hh hz hlen'
  generalize hn : w.heap.size = n at *
  have HNN := Lib.hid hn
  clear hn
  go_upto_block 0 with fail
  go_cut [] (fun wx => MidS w n line wx)
  case first =>
    have HNE : Hid (Sl w5 57 2 (.slice none 0 0) 0 []) := Sl.nil _ _ _
    have HWL : Hid (∀ x ∈ ws, x.length ≤ 6000) := fun x hx => HBL.out x (List.mem_cons_of_mem _ hx)
    have HWL2 : Hid (∀ x ∈ ws.tail, x.length ≤ 6000) := fun x hx => HWL.out x (List.mem_of_mem_tail hx)
    have HWN : Hid (ws.tail.length ≤ 10000) := by show _ ≤ _; have := HBN.out; rw [List.length_cons] at this; rw [List.length_tail]; omega
    by_cases e1 : v0 = [110, 101, 119]
    · subst e1
      have hlit : str [110, 101, 119] = ⟨#[110, 101, 119]⟩ := rfl
      rw [hlit]
      clear hlit
      have HS := Lib.hid ((readS_of HLE.out HSPL.out (by decide)).trans (body_new ws))
      clear HBL HBN HSPL
      go_wp2_with fail
      (with_reducible refine (name_any w5 _ _ _ HW5.out HWL.out).mono ?_)
      rintro e w6 ⟨rfl, hw0, hm0⟩
      rw [show ws.headD [] = hd ws from rfl] at hw0 ⊢
      have HW6 := Lib.hid hw0
      have HQ6 := Lib.hid (HQ5.out.mod hm0 (by omega))
      have HR6 := Lib.hid (HR5.out.mod hm0 (by omega))
      have HB6 : Hid (Below n w w6) := HB5.out.trans (hm0.below (Nat.le_trans (Nat.le_add_right n 4) HZ5.out |> fun h => Nat.le_trans h (Nat.le_refl _)) fun b hb e => by omega)
      have hsz0 : w5.heap.size ≤ w6.heap.size := hm0.size
      have HM6 : Hid (w6.cell? ⟨4, 0, none⟩ = some (.int .i64 m)) := (hm0.cell (a := ⟨4, 0, none⟩) (Nat.lt_of_lt_of_le (Nat.lt_of_lt_of_le HML.out (Nat.le_add_right n 4)) HZ5.out) (by have := HML.out; show 4 ≠ _; omega)).trans HM5.out
      clear hw0 hm0
      go_wp2_with fail
      (with_reducible refine (rrule_any w6 _ _ _ HW6.out).mono ?_)
      rintro e w7 ⟨rfl, hw1, hm1⟩
      rw [show ws.tail.headD [] = hd ws.tail from rfl] at hw1 ⊢
      have HW7 := Lib.hid hw1
      have HQ7 := Lib.hid (HQ6.out.mod hm1 (by omega))
      have HR7 := Lib.hid (HR6.out.mod hm1 (by omega))
      have HB7 : Hid (Below n w w7) := HB6.out.trans (hm1.below (Nat.le_trans (Nat.le_add_right n 4) HZ5.out |> fun h => Nat.le_trans h hsz0) fun b hb e => by omega)
      clear hw1 hm1
      clear hsz0
      have q0 := HQ7.out.cellS (i := 0) rfl
      have q1 := HQ7.out.cellS (i := 1) rfl
      have q2 := HQ7.out.cellS (i := 2) rfl
      have q3 := HQ7.out.cellS (i := 3) rfl
      have q4 := HQ7.out.cellS (i := 4) rfl
      have q5 := HQ7.out.cellS (i := 5) rfl
      have q6 := HQ7.out.cellS (i := 6) rfl
      have k0 := HQ7.out.frozen 0
      have k1 := HQ7.out.frozen 1
      have k2 := HQ7.out.frozen 2
      have k3 := HQ7.out.frozen 3
      have k4 := HQ7.out.frozen 4
      have k5 := HQ7.out.frozen 5
      have k6 := HQ7.out.frozen 6
      go_wp2_with fail
      go_meet
      exact mid_end 1 _ [] _ _ 0 [] (.slice none 0 0) HS.out HW7.out HQ7.out HR7.out (Sl.nil _ _ _) (fun b hb => by simp [sblk] at hb) HB7.out
    by_cases e3 : v0 = [103, 101, 116]
    · subst e3
      have hlit : str [103, 101, 116] = ⟨#[103, 101, 116]⟩ := rfl
      rw [hlit]
      clear hlit
      have HS := Lib.hid ((readS_of HLE.out HSPL.out (by decide)).trans (body_get (.inl rfl) ws))
      clear HBL HBN HSPL
      go_wp2_with fail
      (with_reducible refine (place_any w5 _ _ _ HW5.out HWL.out).mono ?_)
      rintro e w6 ⟨rfl, hw0, hm0⟩
      rw [show ws.headD [] = hd ws from rfl] at hw0 ⊢
      have HW6 := Lib.hid hw0
      have HQ6 := Lib.hid (HQ5.out.mod hm0 (by omega))
      have HR6 := Lib.hid (HR5.out.mod hm0 (by omega))
      have HB6 : Hid (Below n w w6) := HB5.out.trans (hm0.below (Nat.le_trans (Nat.le_add_right n 4) HZ5.out |> fun h => Nat.le_trans h (Nat.le_refl _)) fun b hb e => by omega)
      clear hw0 hm0
      have q0 := HQ6.out.cellS (i := 0) rfl
      have q1 := HQ6.out.cellS (i := 1) rfl
      have q2 := HQ6.out.cellS (i := 2) rfl
      have q3 := HQ6.out.cellS (i := 3) rfl
      have q4 := HQ6.out.cellS (i := 4) rfl
      have q5 := HQ6.out.cellS (i := 5) rfl
      have q6 := HQ6.out.cellS (i := 6) rfl
      have k0 := HQ6.out.frozen 0
      have k1 := HQ6.out.frozen 1
      have k2 := HQ6.out.frozen 2
      have k3 := HQ6.out.frozen 3
      have k4 := HQ6.out.frozen 4
      have k5 := HQ6.out.frozen 5
      have k6 := HQ6.out.frozen 6
      go_wp2_with fail
      go_meet
      exact mid_end 3 _ [] 0 0 0 [] (.slice none 0 0) HS.out HW6.out HQ6.out HR6.out (Sl.nil _ _ _) (fun b hb => by simp [sblk] at hb) HB6.out
    by_cases e4 : v0 = [115, 116, 101, 112]
    · subst e4
      have hlit : str [115, 116, 101, 112] = ⟨#[115, 116, 101, 112]⟩ := rfl
      rw [hlit]
      clear hlit
      have HS := Lib.hid ((readS_of HLE.out HSPL.out (by decide)).trans (body_step ws))
      clear HBL HBN HSPL
      go_wp2_with fail
      (with_reducible refine (place_any w5 _ _ _ HW5.out HWL.out).mono ?_)
      rintro e w6 ⟨rfl, hw0, hm0⟩
      rw [show ws.headD [] = hd ws from rfl] at hw0 ⊢
      have HW6 := Lib.hid hw0
      have HQ6 := Lib.hid (HQ5.out.mod hm0 (by omega))
      have HR6 := Lib.hid (HR5.out.mod hm0 (by omega))
      have HB6 : Hid (Below n w w6) := HB5.out.trans (hm0.below (Nat.le_trans (Nat.le_add_right n 4) HZ5.out |> fun h => Nat.le_trans h (Nat.le_refl _)) fun b hb e => by omega)
      have hsz0 : w5.heap.size ≤ w6.heap.size := hm0.size
      have HM6 : Hid (w6.cell? ⟨4, 0, none⟩ = some (.int .i64 m)) := (hm0.cell (a := ⟨4, 0, none⟩) (Nat.lt_of_lt_of_le (Nat.lt_of_lt_of_le HML.out (Nat.le_add_right n 4)) HZ5.out) (by have := HML.out; show 4 ≠ _; omega)).trans HM5.out
      clear hw0 hm0
      go_wp2_with fail
      (with_reducible refine (rnum_any w6 _ _ _ HW6.out HWL2.out).mono ?_)
      rintro e w7 ⟨rfl, hw1, hm1⟩
      rw [show ws.tail.headD [] = hd ws.tail from rfl] at hw1 ⊢
      have HW7 := Lib.hid hw1
      have HQ7 := Lib.hid (HQ6.out.mod hm1 (by omega))
      have HR7 := Lib.hid (HR6.out.mod hm1 (by omega))
      have HB7 : Hid (Below n w w7) := HB6.out.trans (hm1.below (Nat.le_trans (Nat.le_add_right n 4) HZ5.out |> fun h => Nat.le_trans h hsz0) fun b hb e => by omega)
      clear hw1 hm1
      clear hsz0
      have q0 := HQ7.out.cellS (i := 0) rfl
      have q1 := HQ7.out.cellS (i := 1) rfl
      have q2 := HQ7.out.cellS (i := 2) rfl
      have q3 := HQ7.out.cellS (i := 3) rfl
      have q4 := HQ7.out.cellS (i := 4) rfl
      have q5 := HQ7.out.cellS (i := 5) rfl
      have q6 := HQ7.out.cellS (i := 6) rfl
      have k0 := HQ7.out.frozen 0
      have k1 := HQ7.out.frozen 1
      have k2 := HQ7.out.frozen 2
      have k3 := HQ7.out.frozen 3
      have k4 := HQ7.out.frozen 4
      have k5 := HQ7.out.frozen 5
      have k6 := HQ7.out.frozen 6
      go_wp2_with fail
      go_meet
      exact mid_end 4 _ [] 0 0 _ [] (.slice none 0 0) HS.out HW7.out HQ7.out HR7.out (Sl.nil _ _ _) (fun b hb => by simp [sblk] at hb) HB7.out
    by_cases e5 : v0 = [99, 111, 117, 110, 116]
    · subst e5
      have hlit : str [99, 111, 117, 110, 116] = ⟨#[99, 111, 117, 110, 116]⟩ := rfl
      rw [hlit]
      clear hlit
      have HS := Lib.hid ((readS_of HLE.out HSPL.out (by decide)).trans (body_get (.inr (.inl rfl)) ws))
      clear HBL HBN HSPL
      go_wp2_with fail
      (with_reducible refine (place_any w5 _ _ _ HW5.out HWL.out).mono ?_)
      rintro e w6 ⟨rfl, hw0, hm0⟩
      rw [show ws.headD [] = hd ws from rfl] at hw0 ⊢
      have HW6 := Lib.hid hw0
      have HQ6 := Lib.hid (HQ5.out.mod hm0 (by omega))
      have HR6 := Lib.hid (HR5.out.mod hm0 (by omega))
      have HB6 : Hid (Below n w w6) := HB5.out.trans (hm0.below (Nat.le_trans (Nat.le_add_right n 4) HZ5.out |> fun h => Nat.le_trans h (Nat.le_refl _)) fun b hb e => by omega)
      clear hw0 hm0
      have q0 := HQ6.out.cellS (i := 0) rfl
      have q1 := HQ6.out.cellS (i := 1) rfl
      have q2 := HQ6.out.cellS (i := 2) rfl
      have q3 := HQ6.out.cellS (i := 3) rfl
      have q4 := HQ6.out.cellS (i := 4) rfl
      have q5 := HQ6.out.cellS (i := 5) rfl
      have q6 := HQ6.out.cellS (i := 6) rfl
      have k0 := HQ6.out.frozen 0
      have k1 := HQ6.out.frozen 1
      have k2 := HQ6.out.frozen 2
      have k3 := HQ6.out.frozen 3
      have k4 := HQ6.out.frozen 4
      have k5 := HQ6.out.frozen 5
      have k6 := HQ6.out.frozen 6
      go_wp2_with fail
      go_meet
      exact mid_end 5 _ [] 0 0 0 [] (.slice none 0 0) HS.out HW6.out HQ6.out HR6.out (Sl.nil _ _ _) (fun b hb => by simp [sblk] at hb) HB6.out
    by_cases e6 : v0 = [98, 111, 120]
    · subst e6
      have hlit : str [98, 111, 120] = ⟨#[98, 111, 120]⟩ := rfl
      rw [hlit]
      clear hlit
      have HS := Lib.hid ((readS_of HLE.out HSPL.out (by decide)).trans (body_get (.inr (.inr rfl)) ws))
      clear HBL HBN HSPL
      go_wp2_with fail
      (with_reducible refine (place_any w5 _ _ _ HW5.out HWL.out).mono ?_)
      rintro e w6 ⟨rfl, hw0, hm0⟩
      rw [show ws.headD [] = hd ws from rfl] at hw0 ⊢
      have HW6 := Lib.hid hw0
      have HQ6 := Lib.hid (HQ5.out.mod hm0 (by omega))
      have HR6 := Lib.hid (HR5.out.mod hm0 (by omega))
      have HB6 : Hid (Below n w w6) := HB5.out.trans (hm0.below (Nat.le_trans (Nat.le_add_right n 4) HZ5.out |> fun h => Nat.le_trans h (Nat.le_refl _)) fun b hb e => by omega)
      clear hw0 hm0
      have q0 := HQ6.out.cellS (i := 0) rfl
      have q1 := HQ6.out.cellS (i := 1) rfl
      have q2 := HQ6.out.cellS (i := 2) rfl
      have q3 := HQ6.out.cellS (i := 3) rfl
      have q4 := HQ6.out.cellS (i := 4) rfl
      have q5 := HQ6.out.cellS (i := 5) rfl
      have q6 := HQ6.out.cellS (i := 6) rfl
      have k0 := HQ6.out.frozen 0
      have k1 := HQ6.out.frozen 1
      have k2 := HQ6.out.frozen 2
      have k3 := HQ6.out.frozen 3
      have k4 := HQ6.out.frozen 4
      have k5 := HQ6.out.frozen 5
      have k6 := HQ6.out.frozen 6
      go_wp2_with fail
      go_meet
      exact mid_end 6 _ [] 0 0 0 [] (.slice none 0 0) HS.out HW6.out HQ6.out HR6.out (Sl.nil _ _ _) (fun b hb => by simp [sblk] at hb) HB6.out
    by_cases e7 : v0 = [100, 114, 111, 112]
    · subst e7
      have hlit : str [100, 114, 111, 112] = ⟨#[100, 114, 111, 112]⟩ := rfl
      rw [hlit]
      clear hlit
      have HS := Lib.hid ((readS_of HLE.out HSPL.out (by decide)).trans (body_drop ws))
      clear HBL HBN HSPL
      go_wp2_with fail
      (with_reducible refine (name_any w5 _ _ _ HW5.out HWL.out).mono ?_)
      rintro e w6 ⟨rfl, hw0, hm0⟩
      rw [show ws.headD [] = hd ws from rfl] at hw0 ⊢
      have HW6 := Lib.hid hw0
      have HQ6 := Lib.hid (HQ5.out.mod hm0 (by omega))
      have HR6 := Lib.hid (HR5.out.mod hm0 (by omega))
      have HB6 : Hid (Below n w w6) := HB5.out.trans (hm0.below (Nat.le_trans (Nat.le_add_right n 4) HZ5.out |> fun h => Nat.le_trans h (Nat.le_refl _)) fun b hb e => by omega)
      clear hw0 hm0
      have q0 := HQ6.out.cellS (i := 0) rfl
      have q1 := HQ6.out.cellS (i := 1) rfl
      have q2 := HQ6.out.cellS (i := 2) rfl
      have q3 := HQ6.out.cellS (i := 3) rfl
      have q4 := HQ6.out.cellS (i := 4) rfl
      have q5 := HQ6.out.cellS (i := 5) rfl
      have q6 := HQ6.out.cellS (i := 6) rfl
      have k0 := HQ6.out.frozen 0
      have k1 := HQ6.out.frozen 1
      have k2 := HQ6.out.frozen 2
      have k3 := HQ6.out.frozen 3
      have k4 := HQ6.out.frozen 4
      have k5 := HQ6.out.frozen 5
      have k6 := HQ6.out.frozen 6
      go_wp2_with fail
      go_meet
      exact mid_end 7 _ [] 0 0 0 [] (.slice none 0 0) HS.out HW6.out HQ6.out HR6.out (Sl.nil _ _ _) (fun b hb => by simp [sblk] at hb) HB6.out
    by_cases e8 : v0 = [99, 111, 112, 121]
    · subst e8
      have hlit : str [99, 111, 112, 121] = ⟨#[99, 111, 112, 121]⟩ := rfl
      rw [hlit]
      clear hlit
      have HS := Lib.hid ((readS_of HLE.out HSPL.out (by decide)).trans (body_copy ws))
      clear HBL HBN HSPL
      go_wp2_with fail
      (with_reducible refine (place_any w5 _ _ _ HW5.out HWL.out).mono ?_)
      rintro e w6 ⟨rfl, hw0, hm0⟩
      rw [show ws.headD [] = hd ws from rfl] at hw0 ⊢
      have HW6 := Lib.hid hw0
      have HQ6 := Lib.hid (HQ5.out.mod hm0 (by omega))
      have HR6 := Lib.hid (HR5.out.mod hm0 (by omega))
      have HB6 : Hid (Below n w w6) := HB5.out.trans (hm0.below (Nat.le_trans (Nat.le_add_right n 4) HZ5.out |> fun h => Nat.le_trans h (Nat.le_refl _)) fun b hb e => by omega)
      have hsz0 : w5.heap.size ≤ w6.heap.size := hm0.size
      have HM6 : Hid (w6.cell? ⟨4, 0, none⟩ = some (.int .i64 m)) := (hm0.cell (a := ⟨4, 0, none⟩) (Nat.lt_of_lt_of_le (Nat.lt_of_lt_of_le HML.out (Nat.le_add_right n 4)) HZ5.out) (by have := HML.out; show 4 ≠ _; omega)).trans HM5.out
      clear hw0 hm0
      go_wp2_with fail
      (with_reducible refine (name_any w6 _ _ _ HW6.out HWL2.out).mono ?_)
      rintro e w7 ⟨rfl, hw1, hm1⟩
      rw [show ws.tail.headD [] = hd ws.tail from rfl] at hw1 ⊢
      have HW7 := Lib.hid hw1
      have HQ7 := Lib.hid (HQ6.out.mod hm1 (by omega))
      have HR7 := Lib.hid (HR6.out.mod hm1 (by omega))
      have HB7 : Hid (Below n w w7) := HB6.out.trans (hm1.below (Nat.le_trans (Nat.le_add_right n 4) HZ5.out |> fun h => Nat.le_trans h hsz0) fun b hb e => by omega)
      clear hw1 hm1
      clear hsz0
      have q0 := HQ7.out.cellS (i := 0) rfl
      have q1 := HQ7.out.cellS (i := 1) rfl
      have q2 := HQ7.out.cellS (i := 2) rfl
      have q3 := HQ7.out.cellS (i := 3) rfl
      have q4 := HQ7.out.cellS (i := 4) rfl
      have q5 := HQ7.out.cellS (i := 5) rfl
      have q6 := HQ7.out.cellS (i := 6) rfl
      have k0 := HQ7.out.frozen 0
      have k1 := HQ7.out.frozen 1
      have k2 := HQ7.out.frozen 2
      have k3 := HQ7.out.frozen 3
      have k4 := HQ7.out.frozen 4
      have k5 := HQ7.out.frozen 5
      have k6 := HQ7.out.frozen 6
      go_wp2_with fail
      go_meet
      exact mid_end 8 _ _ 0 0 0 [] (.slice none 0 0) HS.out HW7.out HQ7.out HR7.out (Sl.nil _ _ _) (fun b hb => by simp [sblk] at hb) HB7.out
    by_cases e9 : v0 = [108, 101, 97, 115, 101]
    · subst e9
      have hlit : str [108, 101, 97, 115, 101] = ⟨#[108, 101, 97, 115, 101]⟩ := rfl
      rw [hlit]
      clear hlit
      have HS := Lib.hid ((readS_of HLE.out HSPL.out (by decide)).trans (body_lease ws))
      clear HBL HBN HSPL
      go_wp2_with fail
      (with_reducible refine (name_any w5 _ _ _ HW5.out HWL.out).mono ?_)
      rintro e w6 ⟨rfl, hw0, hm0⟩
      rw [show ws.headD [] = hd ws from rfl] at hw0 ⊢
      have HW6 := Lib.hid hw0
      have HQ6 := Lib.hid (HQ5.out.mod hm0 (by omega))
      have HR6 := Lib.hid (HR5.out.mod hm0 (by omega))
      have HB6 : Hid (Below n w w6) := HB5.out.trans (hm0.below (Nat.le_trans (Nat.le_add_right n 4) HZ5.out |> fun h => Nat.le_trans h (Nat.le_refl _)) fun b hb e => by omega)
      have hsz0 : w5.heap.size ≤ w6.heap.size := hm0.size
      have HM6 : Hid (w6.cell? ⟨4, 0, none⟩ = some (.int .i64 m)) := (hm0.cell (a := ⟨4, 0, none⟩) (Nat.lt_of_lt_of_le (Nat.lt_of_lt_of_le HML.out (Nat.le_add_right n 4)) HZ5.out) (by have := HML.out; show 4 ≠ _; omega)).trans HM5.out
      clear hw0 hm0
      go_wp2_with fail
      (with_reducible refine (rnum_any w6 _ _ _ HW6.out HWL2.out).mono ?_)
      rintro e w7 ⟨rfl, hw1, hm1⟩
      rw [show ws.tail.headD [] = hd ws.tail from rfl] at hw1 ⊢
      have HW7 := Lib.hid hw1
      have HQ7 := Lib.hid (HQ6.out.mod hm1 (by omega))
      have HR7 := Lib.hid (HR6.out.mod hm1 (by omega))
      have HB7 : Hid (Below n w w7) := HB6.out.trans (hm1.below (Nat.le_trans (Nat.le_add_right n 4) HZ5.out |> fun h => Nat.le_trans h hsz0) fun b hb e => by omega)
      clear hw1 hm1
      clear hsz0
      have q0 := HQ7.out.cellS (i := 0) rfl
      have q1 := HQ7.out.cellS (i := 1) rfl
      have q2 := HQ7.out.cellS (i := 2) rfl
      have q3 := HQ7.out.cellS (i := 3) rfl
      have q4 := HQ7.out.cellS (i := 4) rfl
      have q5 := HQ7.out.cellS (i := 5) rfl
      have q6 := HQ7.out.cellS (i := 6) rfl
      have k0 := HQ7.out.frozen 0
      have k1 := HQ7.out.frozen 1
      have k2 := HQ7.out.frozen 2
      have k3 := HQ7.out.frozen 3
      have k4 := HQ7.out.frozen 4
      have k5 := HQ7.out.frozen 5
      have k6 := HQ7.out.frozen 6
      go_wp2_with fail
      go_meet
      exact mid_end 9 _ [] 0 0 _ [] (.slice none 0 0) HS.out HW7.out HQ7.out HR7.out (Sl.nil _ _ _) (fun b hb => by simp [sblk] at hb) HB7.out
    by_cases e10 : v0 = [99, 108, 101, 97, 110]
    · subst e10
      have hlit : str [99, 108, 101, 97, 110] = ⟨#[99, 108, 101, 97, 110]⟩ := rfl
      rw [hlit]
      clear hlit
      have HS := Lib.hid ((readS_of HLE.out HSPL.out (by decide)).trans (body_clean ws))
      clear HBL HBN HSPL
      have q0 := HQ5.out.cellS (i := 0) rfl
      have q1 := HQ5.out.cellS (i := 1) rfl
      have q2 := HQ5.out.cellS (i := 2) rfl
      have q3 := HQ5.out.cellS (i := 3) rfl
      have q4 := HQ5.out.cellS (i := 4) rfl
      have q5 := HQ5.out.cellS (i := 5) rfl
      have q6 := HQ5.out.cellS (i := 6) rfl
      have k0 := HQ5.out.frozen 0
      have k1 := HQ5.out.frozen 1
      have k2 := HQ5.out.frozen 2
      have k3 := HQ5.out.frozen 3
      have k4 := HQ5.out.frozen 4
      have k5 := HQ5.out.frozen 5
      have k6 := HQ5.out.frozen 6
      go_wp2_with fail
      go_meet
      exact mid_end 10 [] [] 0 0 0 [] (.slice none 0 0) HS.out HW5.out HQ5.out HR5.out (Sl.nil _ _ _) (fun b hb => by simp [sblk] at hb) HB5.out
    by_cases e2 : v0 = [115, 101, 116]
    · subst e2
      have hlit : str [115, 101, 116] = ⟨#[115, 101, 116]⟩ := rfl
      rw [hlit]
      clear hlit
      have HSPL0 := HSPL
      clear HBL HBN HSPL
      go_wp2_with fail
      (with_reducible refine (place_any w5 _ _ _ HW5.out HWL.out).mono ?_)
      rintro e w6 ⟨rfl, hw0, hm0⟩
      rw [show ws.headD [] = hd ws from rfl] at hw0 ⊢
      have HW6 := Lib.hid hw0
      have HQ6 := Lib.hid (HQ5.out.mod hm0 (by omega))
      have HR6 := Lib.hid (HR5.out.mod hm0 (by omega))
      have HB6 : Hid (Below n w w6) := HB5.out.trans (hm0.below (Nat.le_trans (Nat.le_add_right n 4) HZ5.out |> fun h => Nat.le_trans h (Nat.le_refl _)) fun b hb e => by omega)
      have hsz0 : w5.heap.size ≤ w6.heap.size := hm0.size
      have HM6 : Hid (w6.cell? ⟨4, 0, none⟩ = some (.int .i64 m)) := (hm0.cell (a := ⟨4, 0, none⟩) (Nat.lt_of_lt_of_le (Nat.lt_of_lt_of_le HML.out (Nat.le_add_right n 4)) HZ5.out) (by have := HML.out; show 4 ≠ _; omega)).trans HM5.out
      clear hw0 hm0
      go_wp2_with fail
      (with_reducible refine (rcells_any w6 m HM6.out _ _ _ HW6.out HWL2.out HWN.out).mono ?_)
      rintro e w7 ⟨v, done, rest, bx, rfl, hsv, hfv, hw1, hm1, hci, hend⟩
      have HW7 := Lib.hid hw1
      have HQ7 := Lib.hid (HQ6.out.mod hm1 (by omega))
      have HR7 := Lib.hid (HR6.out.mod hm1 (by omega))
      have HB7 : Hid (Below n w w7) := HB6.out.trans (hm1.below (Nat.le_trans (Nat.le_add_right n 4) HZ5.out |> fun h => Nat.le_trans h hsz0) fun b hb e => by omega)
      have HSV : Hid (Sl w7 57 2 v done.length (flat done) ∧ ∀ q, sblk v = some q → n ≤ q) := ⟨hsv, fun q hq => by have := hfv q hq; have := HZ5.out; omega⟩
      obtain ⟨A6, cap6, rfl, _, _⟩ := hsv.form
      have HS := Lib.hid ((readS_of HLE.out HSPL0.out (by decide)).trans (body_set hci hend))
      clear hsv hfv hci hend
      clear hw1 hm1
      clear hsz0
      have q0 := HQ7.out.cellS (i := 0) rfl
      have q1 := HQ7.out.cellS (i := 1) rfl
      have q2 := HQ7.out.cellS (i := 2) rfl
      have q3 := HQ7.out.cellS (i := 3) rfl
      have q4 := HQ7.out.cellS (i := 4) rfl
      have q5 := HQ7.out.cellS (i := 5) rfl
      have q6 := HQ7.out.cellS (i := 6) rfl
      have k0 := HQ7.out.frozen 0
      have k1 := HQ7.out.frozen 1
      have k2 := HQ7.out.frozen 2
      have k3 := HQ7.out.frozen 3
      have k4 := HQ7.out.frozen 4
      have k5 := HQ7.out.frozen 5
      have k6 := HQ7.out.frozen 6
      go_wp2_with fail
      go_meet
      exact mid_end 2 _ [] 0 0 0 done _ HS.out HW7.out HQ7.out HR7.out HSV.out.1 HSV.out.2 HB7.out
    have HKN : Hid (verbN v0 = 0) := by show verbN v0 = 0; unfold verbN; rw [if_neg e1, if_neg e2, if_neg e3, if_neg e4, if_neg e5, if_neg e6, if_neg e7, if_neg e8, if_neg e9, if_neg e10]
    have HE : Hid (readS readR line = (zeroR, 4)) := readS_kind HLE.out HSPL.out HKN.out
    have g1 : ((str v0).toList == [110, 101, 119]) = false := by rw [str_toList]; exact beq_eq_false_iff_ne.2 e1
    have g3 : ((str v0).toList == [103, 101, 116]) = false := by rw [str_toList]; exact beq_eq_false_iff_ne.2 e3
    have g4 : ((str v0).toList == [115, 116, 101, 112]) = false := by rw [str_toList]; exact beq_eq_false_iff_ne.2 e4
    have g5 : ((str v0).toList == [99, 111, 117, 110, 116]) = false := by rw [str_toList]; exact beq_eq_false_iff_ne.2 e5
    have g6 : ((str v0).toList == [98, 111, 120]) = false := by rw [str_toList]; exact beq_eq_false_iff_ne.2 e6
    have g7 : ((str v0).toList == [100, 114, 111, 112]) = false := by rw [str_toList]; exact beq_eq_false_iff_ne.2 e7
    have g8 : ((str v0).toList == [99, 111, 112, 121]) = false := by rw [str_toList]; exact beq_eq_false_iff_ne.2 e8
    have g9 : ((str v0).toList == [108, 101, 97, 115, 101]) = false := by rw [str_toList]; exact beq_eq_false_iff_ne.2 e9
    have g10 : ((str v0).toList == [99, 108, 101, 97, 110]) = false := by rw [str_toList]; exact beq_eq_false_iff_ne.2 e10
    have g2 : ((str v0).toList == [115, 101, 116]) = false := by rw [str_toList]; exact beq_eq_false_iff_ne.2 e2
    clear e1 e2 e3 e4 e5 e6 e7 e8 e9 e10
    have r0 := HR5.out.cellS (i := 0) rfl
    have r1 := HR5.out.cellS (i := 1) rfl
    have r2 := HR5.out.cellS (i := 2) rfl
    have r3 := HR5.out.cellS (i := 3) rfl
    have r4 := HR5.out.cellS (i := 4) rfl
    have r5 := HR5.out.cellS (i := 5) rfl
    have r6 := HR5.out.cellS (i := 6) rfl
    have f0 := HR5.out.frozen 0
    have f1 := HR5.out.frozen 1
    have f2 := HR5.out.frozen 2
    have f3 := HR5.out.frozen 3
    have f4 := HR5.out.frozen 4
    have f5 := HR5.out.frozen 5
    have f6 := HR5.out.frozen 6
    go_wp2_with fail
    refine bodyPost_ret (v := .tuple #[reqV zeroR (.slice none 0 0), .int .i64 4]) (by rw [results_cell_tmp rfl]; go_simp; rfl) rfl ?_
    have hl : n ≤ n := Nat.le_refl _
    refine ⟨_, by rw [HE.out], by rw [HE.out]; exact Sl.nil _ _ _, fun b hb => by simp [sblk] at hb, ?_⟩
    rw [HNN.out]
    exact ((((((HB5.out.setCell (p := ⟨n, 0, none⟩) hl _).setCell (p := ⟨n, 1, none⟩) hl _).setCell (p := ⟨n, 2, none⟩) hl _).setCell (p := ⟨n, 3, none⟩) hl _).setCell (p := ⟨n, 4, none⟩) hl _).setCell (p := ⟨n, 5, none⟩) hl _).setCell (p := ⟨n, 6, none⟩) hl _
  case rest =>
    obtain ⟨q, rest, bad, v, hS, hw, hq, hr, hsl, hf, hb⟩ := hcut
    obtain ⟨A, cap, c0, c1, hcap⟩ := hw.head
    have r0 := hr.cellS (i := 0) rfl
    have r1 := hr.cellS (i := 1) rfl
    have r2 := hr.cellS (i := 2) rfl
    have r3 := hr.cellS (i := 3) rfl
    have r4 := hr.cellS (i := 4) rfl
    have r5 := hr.cellS (i := 5) rfl
    have r6 := hr.cellS (i := 6) rfl
    have f0 := hr.frozen 0
    have f1 := hr.frozen 1
    have f2 := hr.frozen 2
    have f3 := hr.frozen 3
    have f4 := hr.frozen 4
    have f5 := hr.frozen 5
    have f6 := hr.frozen 6
    have hne := hsl.ne hr (by decide)
    have HEND : Hid (∀ a0 a1 a2 a3 a4 a5 a6 : Value, Below w.heap.size w (((((((wc.setCell ⟨n, 0, none⟩ a0).setCell ⟨n, 1, none⟩ a1).setCell ⟨n, 2, none⟩ a2).setCell ⟨n, 3, none⟩ a3).setCell ⟨n, 4, none⟩ a4).setCell ⟨n, 5, none⟩ a5).setCell ⟨n, 6, none⟩ a6) ∧
        Sl (((((((wc.setCell ⟨n, 0, none⟩ a0).setCell ⟨n, 1, none⟩ a1).setCell ⟨n, 2, none⟩ a2).setCell ⟨n, 3, none⟩ a3).setCell ⟨n, 4, none⟩ a4).setCell ⟨n, 5, none⟩ a5).setCell ⟨n, 6, none⟩ a6) 57 2 v q.cells.length (flat q.cells)) := fun a0 a1 a2 a3 a4 a5 a6 => by
      have hl : n ≤ n := Nat.le_refl _
      rw [HNN.out]
      exact ⟨((((((hb.setCell (p := ⟨n, 0, none⟩) hl a0).setCell (p := ⟨n, 1, none⟩) hl a1).setCell (p := ⟨n, 2, none⟩) hl a2).setCell (p := ⟨n, 3, none⟩) hl a3).setCell (p := ⟨n, 4, none⟩) hl a4).setCell (p := ⟨n, 5, none⟩) hl a5).setCell (p := ⟨n, 6, none⟩) hl a6,
        ((((((hsl.far (p := ⟨n, 0, none⟩) hne a0).far (p := ⟨n, 1, none⟩) hne a1).far (p := ⟨n, 2, none⟩) hne a2).far (p := ⟨n, 3, none⟩) hne a3).far (p := ⟨n, 4, none⟩) hne a4).far (p := ⟨n, 5, none⟩) hne a5).far (p := ⟨n, 6, none⟩) hne a6⟩
    clear hne
    have HSS := Lib.hid hS
    have HSL := Lib.hid hsl
    have HF := Lib.hid hf
    have HB := Lib.hid hb
    clear hr hw hS hsl hf hb
    cases bad
    · cases rest with
      | nil =>
        have q0 := hq.cellS (i := 0) rfl
        have q1 := hq.cellS (i := 1) rfl
        have q2 := hq.cellS (i := 2) rfl
        have q3 := hq.cellS (i := 3) rfl
        have q4 := hq.cellS (i := 4) rfl
        have q5 := hq.cellS (i := 5) rfl
        have q6 := hq.cellS (i := 6) rfl
        have HE : Hid (readS readR line = (q, 0)) := HSS.out.trans (endS_ok q)
        have c0' : wc.cell? ⟨n + 1 + 1, 0, none⟩ = some (.slice A 0 cap) := c0
        obtain ⟨A6, cap6, rfl, _, _⟩ := HSL.out.form
        clear hq c0 hcap
        go_wp2_with fail
        refine bodyPost_ret (v := .tuple #[reqV q (.slice A6 q.cells.length cap6), .int .i64 0]) (by rw [results_cell_tmp rfl]; go_simp; rfl) rfl ?_
        obtain ⟨h1, h2⟩ := HEND.out (.int .i64 q.verb) (.string (str q.name)) (.string (str q.other)) (.int .i64 q.b) (.int .i64 q.l) (.int .i64 q.n) (.slice A6 q.cells.length cap6)
        exact ⟨_, by rw [HE.out], by rw [HE.out]; exact h2, by rw [HNN.out]; exact HF.out, h1⟩
      | cons a r =>
        have hpos : (0 : Int) < ((a :: r).length : Int) := by simp
        have HE : Hid (readS readR line = (zeroR, 2)) := HSS.out.trans (endS_rest _ _ _ _)
        generalize hnl : (a :: r).length = nl at c0 hcap hpos
        clear hq hnl
        go_wp2_with fail
        refine bodyPost_ret (v := .tuple #[reqV zeroR (.slice none 0 0), .int .i64 2]) (by rw [results_cell_tmp rfl]; go_simp; rfl) rfl ?_
        obtain ⟨h1, _⟩ := HEND.out (.int .i64 0) (.string ⟨#[]⟩) (.string ⟨#[]⟩) (.int .i64 0) (.int .i64 0) (.int .i64 0) (.slice none 0 0)
        exact ⟨_, by rw [HE.out], by rw [HE.out]; exact Sl.nil _ _ _, fun b hb => by simp [sblk] at hb, h1⟩
    · have HE : Hid (readS readR line = (zeroR, 2)) := HSS.out.trans (endS_bad _ _)
      clear hq
      go_wp2_with fail
      refine bodyPost_ret (v := .tuple #[reqV zeroR (.slice none 0 0), .int .i64 2]) (by rw [results_cell_tmp rfl]; go_simp; rfl) rfl ?_
      obtain ⟨h1, _⟩ := HEND.out (.int .i64 0) (.string ⟨#[]⟩) (.string ⟨#[]⟩) (.int .i64 0) (.int .i64 0) (.int .i64 0) (.slice none 0 0)
      exact ⟨_, by rw [HE.out], by rw [HE.out]; exact Sl.nil _ _ _, fun b hb => by simp [sblk] at hb, h1⟩
end Go.Proofs.YtkandepkojfblaaDoor
