/- rle's writer: the builder within it: the walks of its methods. -/
import Derived.Test.YtlcjadgaommfmaaDoorStr
import Derived.Test.YtlcjadgaommfmaaDoorHeap
import Derived.Test.YtlcjadgaommfmaaDoorShelfLaid
import Derived.OwnWalk
import Derived.Lib.Builder
import Derived.Lib.AppendStr
namespace Go.Proofs.YtlcjadgaommfmaaDoor
open Go.RowKit

abbrev RW : TypeId := 58
abbrev BT : TypeId := 56
abbrev U8 : TypeId := 5
theorem size_builder : (Tryd.prog.info? BT).map (·.size) = some 2 := by kernel_rfl
theorem lies_writer : liesAt Tryd.prog Tryd.prog.depth RW (3 / Tryd.prog.cellsOf RW) 0 BT 1 = true := by kernel_rfl
theorem no_escape (x : Value) (w : World) : (callFunc 50 #[x]).run Tryd.prog w = .ok (.value x) w := by
  rw [run_callFunc_extern Tryd.func50 (by kernel_rfl) (by kernel_rfl) (by kernel_rfl) (e := Extern.AbiNoEscape.same) (by kernel_rfl)]
  rfl
/-- The writer at block b: its text and its column. -/
structure WrP (w : World) (B b : Nat) (p v : Value) (txt : List UInt8) (col : Int) : Prop where
  base : B ≤ b
  blk : Blk w b RW #[p, v, .int .i64 col]
  own : w.ownsRow B U8 1 v txt.length (Lib.byteCells txt)
def Wr (w : World) (B b : Nat) (txt : List UInt8) (col : Int) : Prop :=
  ∃ p v, (p = .pointer none ∨ p = .pointer (some ⟨b, 0, none⟩)) ∧ WrP w B b p v txt col
theorem own_kept {w w' : World} {B : Nat} {v : Value} {n : Nat} {xs : List Value} (h : w.ownsRow B U8 1 v n xs) (hk : ∀ g, v.ownBlock = some g → w'.heap[g]? = w.heap[g]?) : w'.ownsRow B U8 1 v n xs := by
  refine ⟨h.1, ?_⟩
  rcases h.2 with h0 | ⟨g, cap, cur, rfl, h1, h2, h3⟩
  · exact .inl h0
  · exact .inr ⟨g, cap, cur, rfl, h1, (hk g rfl).trans h2, h3⟩
variable {w w' : World} {B b : Nat} {p v : Value} {txt : List UInt8} {col : Int}
theorem WrP.ne (h : WrP w B b p v txt col) : v.ownBlock ≠ some b := Lib.ownBlock_ne h.own h.blk (by decide)
theorem WrP.set0 (h : WrP w B b p v txt col) (q : Value) : WrP (w.setCell ⟨b, 0, none⟩ q) B b q v txt col :=
  ⟨h.base, h.blk.set 0 q, own_kept h.own fun g hg => Below.heap_setCell w ⟨b, 0, none⟩ q g (fun e => h.ne (by rw [hg]; exact congrArg some e))⟩
theorem WrP.set2 (h : WrP w B b p v txt col) (k : Int) : WrP (w.setCell ⟨b, 2, none⟩ (.int .i64 k)) B b p v txt k :=
  ⟨h.base, h.blk.set 2 _, own_kept h.own fun g hg => Below.heap_setCell w ⟨b, 2, none⟩ (.int .i64 k) g (fun e => h.ne (by rw [hg]; exact congrArg some e))⟩
theorem Wr.set2 (h : Wr w B b txt col) (k : Int) : Wr (w.setCell ⟨b, 2, none⟩ (.int .i64 k)) B b txt k := by
  obtain ⟨p, v, hp, h⟩ := h
  exact ⟨p, v, hp, h.set2 k⟩
theorem Wr.mod (h : Wr w B b txt col) (hm : Below w.heap.size w w') : Wr w' B b txt col := by
  obtain ⟨p, v, hp, h⟩ := h
  exact ⟨p, v, hp, h.base, h.blk.mod (Mod.of_below_all hm) (fun x => x), own_kept h.own fun g hg => hm.block g (h.own.lt g hg).2⟩
theorem Wr.at2 (h : Wr w B b txt col) : w.cell? ⟨b, 2, none⟩ = some (.int .i64 col) ∧ w.frozen? ⟨b, 2, none⟩ = false ∧ b < w.heap.size ∧ B ≤ b := by
  obtain ⟨p, v, hp, h⟩ := h
  exact ⟨h.blk.cellS rfl, h.blk.frozen 2, h.blk.lt, h.base⟩

set_option maxRecDepth 100000 in
theorem copy_used (b : Nat) (w : World) (h0 : w.cell? ⟨b, 0, none⟩ = some (.pointer (some ⟨b, 0, none⟩))) :
    Calls Tryd.prog 40 #[.pointer (some ⟨b, 0, none⟩)] w fun e w' => e = .returned (.tuple #[]) ∧ w' = w := by
  obtain ⟨j, hj, _⟩ := Option.map_eq_some_iff.1 size_builder
  have e1 := Lib.run_neq_ptr_same (P := Tryd.prog) w ⟨b, 0, none⟩ Tryd.underlying53 hj
  go_enter Tryd.func40, Tryd.ntmps40
  go_wp2
  go_end0
  exact ⟨rfl, rfl⟩
set_option maxRecDepth 100000 in
theorem copy_fresh (b : Nat) (w : World) (h0 : w.cell? ⟨b, 0, none⟩ = some (.pointer none)) (hsh : w.shape? b = some (RW, 3)) (hfz : w.frozen? ⟨b, 0, none⟩ = false) :
    Calls Tryd.prog 40 #[.pointer (some ⟨b, 0, none⟩)] w fun e w' => e = .returned (.tuple #[]) ∧ w' = w.setCell ⟨b, 0, none⟩ (.pointer (some ⟨b, 0, none⟩)) := by
  obtain ⟨j, hj, hjs⟩ := Option.map_eq_some_iff.1 size_builder
  have e1 := Lib.run_to_unsafe (P := Tryd.prog) w ⟨b, 0, none⟩ Tryd.underlying53 Tryd.underlying88 hj (by rw [hjs]; decide) hsh (Nat.zero_lt_succ 2)
  have e2 := Lib.run_from_unsafe (P := Tryd.prog) w ⟨b, 0, none⟩ Tryd.underlying88 Tryd.underlying53 hj hsh lies_writer
  have e3 := no_escape (.pointer (some ⟨b, 0, none⟩)) w
  have e4 := Lib.run_neq_ptr_same (P := Tryd.prog) (w.setCell ⟨b, 0, none⟩ (.pointer (some ⟨b, 0, none⟩))) ⟨b, 0, none⟩ Tryd.underlying53 hj
  go_enter Tryd.func40, Tryd.ntmps40
  go_wp2
  go_end0
  exact ⟨rfl, rfl⟩
theorem copy_any (h : Wr w B b txt col) :
    Calls Tryd.prog 40 #[.pointer (some ⟨b, 0, none⟩)] w fun e w' => e = .returned (.tuple #[]) ∧ (∃ v, WrP w' B b (.pointer (some ⟨b, 0, none⟩)) v txt col) ∧ Below B w w' := by
  obtain ⟨p, v, rfl | rfl, h⟩ := h
  · refine (copy_fresh b w (h.blk.cellS rfl) (by have h2 := h.blk; unfold Blk at h2; simp [World.shape?, h2]) (h.blk.frozen 0)).mono ?_
    rintro e w' ⟨rfl, rfl⟩
    exact ⟨rfl, ⟨v, h.set0 _⟩, (Below.refl _ _).setCell (p := ⟨b, 0, none⟩) h.base _⟩
  · refine (copy_used b w (h.blk.cellS rfl)).mono ?_
    rintro e w' ⟨rfl, rfl⟩
    exact ⟨rfl, ⟨v, h⟩, Below.refl _ _⟩
theorem row_form {n : Nat} {xs : List Value} (h : w.ownsRow B U8 1 v n xs) : ∃ A cap, v = .slice A n cap ∧ cap ≤ maxLen := by
  rcases h.2 with ⟨rfl, rfl⟩ | ⟨g, cap, cur, rfl, _, _, _, h3, _⟩
  · exact ⟨none, 0, rfl, Nat.zero_le _⟩
  · exact ⟨_, cap, rfl, h3⟩
theorem wr_grown {w1 w2 : World} {v5 : Value} {q : List UInt8} (h : WrP w1 B b p v txt col) (hg : w1.grownBy w2 v.ownBlock) (ho : w2.ownsRow B U8 1 v5 (txt.length + q.length) (Lib.byteCells txt ++ Lib.byteCells q)) :
    Blk w2 b RW #[p, v, .int .i64 col] ∧ WrP (w2.setCell ⟨b, 1, none⟩ v5) B b p v5 (txt ++ q) col ∧ Below B w1 (w2.setCell ⟨b, 1, none⟩ v5) := by
  have hb2 : Blk w2 b RW #[p, v, .int .i64 col] := (hg.block b h.blk.lt (fun e => h.ne e.symm)).trans h.blk
  have hn : v5.ownBlock ≠ some b := Lib.ownBlock_ne ho hb2 (by decide)
  refine ⟨hb2, ⟨h.base, hb2.set 1 v5, ?_⟩, ?_⟩
  · have ho2 := own_kept (w' := w2.setCell ⟨b, 1, none⟩ v5) ho fun g hg => Below.heap_setCell w2 ⟨b, 1, none⟩ v5 g (fun e => hn (by rw [hg]; exact congrArg some e))
    rw [List.length_append, Lib.byteCells_append]; exact ho2
  · refine Below.setCell ⟨hg.os, hg.tape, hg.output, hg.size, fun k hk => ?_⟩ (p := ⟨b, 1, none⟩) h.base _
    rcases Nat.lt_or_ge k w1.heap.size with hk1 | hk1
    · refine hg.block k hk1 fun e => ?_
      have := (h.own.lt k e.symm).1
      omega
    · have := h.base; have := h.blk.lt; omega

set_option maxRecDepth 100000 in
set_option maxHeartbeats 1600000 in
theorem wbyte_any (h : Wr w B b txt col) (c : UInt8) (hlen : txt.length + 1 ≤ 140737488355328) :
    Calls Tryd.prog 23 #[.pointer (some ⟨b, 0, none⟩), .int .u8 (c.toNat : Int)] w fun e w' => e = .returned .nilIface ∧ Wr w' B b (txt ++ [c]) col ∧ Below B w w' := by
  have H := Lib.hid h
  obtain ⟨i, hi, hz0, hz1, hz2⟩ := info_parts Tryd.info5
  have HI := Lib.hid hi
  clear h hi
  go_enter Tryd.func23, Tryd.ntmps23
  go_wp2_with fail
  (with_reducible refine (copy_any H.out).mono ?_)
  rintro e w1 ⟨rfl, ⟨v, hw1⟩, hb1⟩
  have HW1 := Lib.hid hw1
  have HB1 := Lib.hid hb1
  obtain ⟨A, cap, rfl, hcap⟩ := row_form hw1.own
  have c1 : w1.cell? ⟨b, 1, none⟩ = some (.slice A txt.length cap) := hw1.blk.cellS rfl
  clear hw1 hb1
  have HOA := Lib.hid (HW1.out.own.alloc (.cells #[.int .u8 (c.toNat : Int)] U8))
  go_wp2_with (at_builtin; refine wpList_append_own _ rfl (.tmp 11) (.tmp 13) 54 rfl B U8 i (.int .u8 0) 1 1 Tryd.underlying54 HI.out hz0 hz1 hz2 rfl (by decide) _ _ _ rfl HOA.out ⟨w1.heap.size, 0, none⟩ 1 1 [.int .u8 (c.toNat : Int)] rfl rfl ?_ ?_ ?_ ?_ ?_ ?_)
  · intro j u hj
    match j, hj with
    | 0, hj => simp at hj; subst hj; simp [Addr.add]
  · intro u hu; simp at hu; subst hu; rfl
  · unfold maxLen; omega
  · omega
  · have := HW1.out.base; have := HW1.out.blk.lt; simp; omega
  intro v5 w5 hown5 hgr5 _
  have hwa : WrP (w1.alloc (.cells #[.int .u8 (c.toNat : Int)] U8)) B b (.pointer (some ⟨b, 0, none⟩)) (.slice A txt.length cap) txt col := ⟨HW1.out.base, HW1.out.blk.alloc _, HOA.out⟩
  obtain ⟨A5, cap5, rfl, hcap5⟩ := row_form hown5
  obtain ⟨k1, k2, k3⟩ := wr_grown (q := [c]) hwa hgr5 hown5
  have c5 : w5.cell? ⟨b, 1, none⟩ = some (.slice A txt.length cap) := k1.cellS rfl
  have f5 := k1.frozen 1
  have K2 := Lib.hid k2
  have K3 := Lib.hid (HB1.out.trans (((Below.refl B w1).alloc (by have := HW1.out.base; have := HW1.out.blk.lt; omega) _).trans k3))
  clear k1 k2 k3 hown5 hgr5 hwa c1
  go_wp2
  go_ret
  exact ⟨rfl, ⟨_, _, .inr rfl, K2.out⟩, K3.out⟩
set_option maxRecDepth 100000 in
set_option maxHeartbeats 1600000 in
theorem wstr_any (h : Wr w B b txt col) (q : List UInt8) (hlen : txt.length + q.length ≤ 140737488355328) :
    Calls Tryd.prog 20 #[.pointer (some ⟨b, 0, none⟩), .string (str q)] w fun e w' => e = .returned (.tuple #[.int .i64 (q.length : Int), .nilIface]) ∧ Wr w' B b (txt ++ q) col ∧ Below B w w' := by
  have H := Lib.hid h
  obtain ⟨i, hi, hz0, hz1, hz2⟩ := info_parts Tryd.info5
  have HI := Lib.hid hi
  have hqs : (str q).size = q.length := str_size q
  have hqs2 : ((str q).size : Int) = (q.length : Int) := by rw [hqs]
  have hqc : Lib.strCells (str q) = Lib.byteCells q := by simp [Lib.strCells, Lib.byteCells, str]
  clear h hi
  go_enter Tryd.func20, Tryd.ntmps20
  go_wp2_with fail
  (with_reducible refine (copy_any H.out).mono ?_)
  rintro e w1 ⟨rfl, ⟨v, hw1⟩, hb1⟩
  have HW1 := Lib.hid hw1
  have HB1 := Lib.hid hb1
  obtain ⟨A, cap, rfl, hcap⟩ := row_form hw1.own
  have c1 : w1.cell? ⟨b, 1, none⟩ = some (.slice A txt.length cap) := hw1.blk.cellS rfl
  clear hw1 hb1
  go_wp2_with (at_builtin; refine Lib.wpList_append_own_string _ rfl _ _ 54 9 rfl B U8 i Tryd.underlying54 Tryd.underlying9 HI.out hz0 hz1 hz2 _ _ _ rfl HW1.out.own (str q) rfl ?_ ?_ ?_ ?_)
  · rw [hqs]; unfold maxLen; omega
  · rw [hqs]; omega
  · have := HW1.out.base; have := HW1.out.blk.lt; omega
  intro v5 w5 hown5 hgr5 _
  obtain ⟨A5, cap5, rfl, hcap5⟩ := row_form hown5
  obtain ⟨k1, k2, k3⟩ := wr_grown (q := q) HW1.out hgr5 hown5
  have c5 : w5.cell? ⟨b, 1, none⟩ = some (.slice A txt.length cap) := k1.cellS rfl
  have f5 := k1.frozen 1
  have K2 := Lib.hid k2
  have K3 := Lib.hid (HB1.out.trans k3)
  clear k1 k2 k3 hown5 hgr5 c1
  go_wp2
  go_ret2
  exact ⟨rfl, ⟨_, _, .inr rfl, K2.out⟩, K3.out⟩
set_option maxRecDepth 100000 in
set_option maxHeartbeats 1600000 in
theorem wtext_any (h : Wr w B b txt col) (h0 : txt ≠ []) :
    Calls Tryd.prog 24 #[.pointer (some ⟨b, 0, none⟩)] w fun e w' => e = .returned (.string (str txt)) ∧ Below B w w' := by
  obtain ⟨p, v, hp, hB, hbk, hown⟩ := h
  have hl0 : txt.length ≠ 0 := by simpa using h0
  obtain ⟨g, cap, cur, rfl, hbg, hg, hnc, hcm, hcs, htake⟩ : ∃ g cap cur, v = .slice (some ⟨g, 0, none⟩) txt.length cap ∧ B ≤ g ∧ w.heap[g]? = some (.cells cur U8 (0, 0)) ∧ txt.length ≤ cap ∧ cap ≤ maxLen ∧ cur.size = cap * 1 ∧ cur.toList.take (txt.length * 1) = Lib.byteCells txt := by
    rcases hown.2 with ⟨_, hz⟩ | ⟨g, cap, cur, hv, r⟩
    · exact absurd hz hl0
    · exact ⟨g, cap, cur, hv, r⟩
  have c1 : w.drew.cell? ⟨b, 1, none⟩ = some (.slice (some ⟨g, 0, none⟩) txt.length cap) := hbk.drew.cellS rfl
  have hSD : (Builtin.unsafeSliceData_ #[54] 80 #[.slice (some ⟨g, 0, none⟩) txt.length cap]).run Tryd.prog w.drew = .ok (.pointer (some ⟨g, 0, none⟩)) w.drew :=
    Lib.run_unsafeSliceData_row _ _ _ _ _ _ (by omega)
  have hUS : (Builtin.unsafeString_ #[80, 3] 9 #[.pointer (some ⟨g, 0, none⟩), .int .i64 txt.length]).run Tryd.prog w.drew = .ok (.string ⟨txt.toArray⟩) (w.drew.freeze ⟨g, 0, none⟩ txt.length) := by
    refine Lib.run_unsafeString_row w.drew 80 3 9 U8 Tryd.underlying80 (by kernel_rfl) g cur.size (by have hg' : w.drew.heap[g]? = some (.cells cur U8 (0, 0)) := hg; simp [World.shape?, hg']) txt h0 (by omega) (by unfold maxLen at hcm; omega) ?_
    intro j x hx
    exact hown.cells (g := g) rfl j (.int .u8 x.toNat) (by simp [Lib.byteCells, hx])
  clear hown hg htake
  go_enter Tryd.func24, Tryd.ntmps24
  go_wp2
  go_region_law (fail)
  all_goals
    go_wp2
    go_ret
    exact ⟨rfl, Lib.below_freeze (Below.drew (Below.refl B w)) (p := ⟨g, 0, none⟩) hbg _⟩
end Go.Proofs.YtlcjadgaommfmaaDoor
