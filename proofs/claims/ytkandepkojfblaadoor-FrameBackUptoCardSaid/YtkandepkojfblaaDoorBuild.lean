/- (*strings.Builder).Write: the walk. -/
import Derived.Test.YtkandepkojfblaaDoorStr
import Derived.Test.YtkandepkojfblaaDoorShelfLaid
import Derived.OwnWalk
import Derived.Lib.Builder
namespace Go.Proofs.YtkandepkojfblaaDoor
open Go.RowKit

abbrev BT : TypeId := 45
abbrev U8 : TypeId := 5
theorem size_builder : (Tryd.prog.info? BT).map (·.size) = some 2 := by kernel_rfl
theorem lies_builder : liesAt Tryd.prog Tryd.prog.depth BT (2 / Tryd.prog.cellsOf BT) 0 BT 1 = true := by kernel_rfl
theorem no_escape (x : Value) (w : World) : (callFunc 49 #[x]).run Tryd.prog w = .ok (.value x) w := by
  rw [run_callFunc_extern Tryd.func49 (by kernel_rfl) (by kernel_rfl) (by kernel_rfl) (e := Extern.AbiNoEscape.same) (by kernel_rfl)]
  rfl

set_option maxRecDepth 100000 in
theorem copy_used (b : Nat) (w : World) (h0 : w.cell? ⟨b, 0, none⟩ = some (.pointer (some ⟨b, 0, none⟩))) :
    Calls Tryd.prog 30 #[.pointer (some ⟨b, 0, none⟩)] w fun e w' => e = .returned (.tuple #[]) ∧ w' = w := by
  obtain ⟨j, hj, _⟩ := Option.map_eq_some_iff.1 size_builder
  have e1 := Lib.run_neq_ptr_same (P := Tryd.prog) w ⟨b, 0, none⟩ Tryd.underlying42 hj
  go_enter Tryd.func30, Tryd.ntmps30
  go_wp2
  go_end0
  exact ⟨rfl, rfl⟩
set_option maxRecDepth 100000 in
theorem copy_fresh (b : Nat) (w : World) (h0 : w.cell? ⟨b, 0, none⟩ = some (.pointer none)) (hsh : w.shape? b = some (BT, 2)) (hfz : w.frozen? ⟨b, 0, none⟩ = false) :
    Calls Tryd.prog 30 #[.pointer (some ⟨b, 0, none⟩)] w fun e w' => e = .returned (.tuple #[]) ∧ w' = w.setCell ⟨b, 0, none⟩ (.pointer (some ⟨b, 0, none⟩)) := by
  obtain ⟨j, hj, hjs⟩ := Option.map_eq_some_iff.1 size_builder
  have e1 := Lib.run_to_unsafe (P := Tryd.prog) w ⟨b, 0, none⟩ Tryd.underlying42 Tryd.underlying84 hj (by rw [hjs]; decide) hsh (Nat.zero_lt_succ 1)
  have e2 := Lib.run_from_unsafe (P := Tryd.prog) w ⟨b, 0, none⟩ Tryd.underlying84 Tryd.underlying42 hj hsh lies_builder
  have e3 := no_escape (.pointer (some ⟨b, 0, none⟩)) w
  have e4 := Lib.run_neq_ptr_same (P := Tryd.prog) (w.setCell ⟨b, 0, none⟩ (.pointer (some ⟨b, 0, none⟩))) ⟨b, 0, none⟩ Tryd.underlying42 hj
  go_enter Tryd.func30, Tryd.ntmps30
  go_wp2
  go_end0
  exact ⟨rfl, rfl⟩
theorem copy_check (B b : Nat) (bs : List Value) (w : World) (h : Lib.IsBuilder BT U8 B b bs w) :
    Calls Tryd.prog 30 #[.pointer (some ⟨b, 0, none⟩)] w fun e w' => e = .returned (.tuple #[]) ∧ Lib.BuilderAt BT U8 B b (.pointer (some ⟨b, 0, none⟩)) bs w' ∧ (w' = w ∨ w' = w.setCell ⟨b, 0, none⟩ (.pointer (some ⟨b, 0, none⟩))) := by
  rcases h with h | h
  · refine (copy_fresh b w h.cell0 h.shape h.frozen0).mono ?_
    rintro e w' ⟨rfl, rfl⟩
    exact ⟨rfl, h.used _, .inr rfl⟩
  · refine (copy_used b w h.cell0).mono ?_
    rintro e w' ⟨rfl, rfl⟩
    exact ⟨rfl, h, .inl rfl⟩

theorem row_form {w : World} {B : Nat} {e : TypeId} {v : Value} {n : Nat} {xs : List Value} (h : w.ownsRow B e 1 v n xs) : ∃ A cap, v = .slice A n cap ∧ cap ≤ maxLen := by
  rcases h.2 with ⟨rfl, rfl⟩ | ⟨g, cap, cur, rfl, _, _, _, h3, _⟩
  · exact ⟨none, 0, rfl, Nat.zero_le _⟩
  · exact ⟨_, cap, rfl, h3⟩

set_option maxRecDepth 100000 in
set_option maxHeartbeats 1600000 in
theorem builder_write (B b : Nat) (l : List UInt8) (w : World) (h : Lib.IsBuilder BT U8 B b (Lib.byteCells l) w) (hB : B ≤ w.heap.size) (fb off : Nat) (c : Nat) (news : List UInt8) (hne : fb ≠ b) (hn : ∀ j u, (Lib.byteCells news)[j]? = some u → w.cell? ⟨fb, off + j, none⟩ = some u) (hlen : l.length + news.length ≤ 140737488355328) (hc : c ≤ maxLen) :
    Calls Tryd.prog 15 #[.pointer (some ⟨b, 0, none⟩), .slice (some ⟨fb, off, none⟩) news.length c] w fun e w' => e = .returned (.tuple #[.int .i64 news.length, .nilIface]) ∧ Lib.IsBuilder BT U8 B b (Lib.byteCells (l ++ news)) w' ∧ Below B w w' := by
  have H := Lib.hid h
  have HN := Lib.hid hn
  obtain ⟨i, hi, hz0, hz1, hz2⟩ := info_parts Tryd.info5
  have HI := Lib.hid hi
  clear h hn
  unfold maxLen at hc
  go_enter Tryd.func15, Tryd.ntmps15
  go_wp2_with fail
  (with_reducible refine (copy_check B b _ _ H.out).mono ?_)
  rintro e w1 ⟨rfl, hat, hw1⟩
  have hnews1 : ∀ j u, (Lib.byteCells news)[j]? = some u → w1.cell? ((⟨fb, off, none⟩ : Addr).add j) = some u := fun j u hj => by
    rw [Addr.add_lit]
    rcases hw1 with rfl | rfl
    · exact HN.out j u hj
    · rw [World.cell?_of_block (Below.heap_setCell _ _ _ _ (by exact hne))]; exact HN.out j u hj
  have HB1 : Hid (Below B w w1) := by
    rcases hw1 with rfl | rfl
    · exact Below.refl _ _
    · exact (Below.refl _ _).setCell hat.1 _
  have HNW := Lib.hid hnews1
  obtain ⟨hBb, v, hb, hown, hneq⟩ := hat
  have hblt : b < w1.heap.size := Lib.BuilderAt.lt ⟨hBb, v, hb, hown, hneq⟩
  obtain ⟨A0, cap0, rfl, hcap0⟩ := row_form hown
  have hbk : Blk w1 b BT #[.pointer (some ⟨b, 0, none⟩), .slice A0 (Lib.byteCells l).length cap0] := hb
  have c1 : w1.cell? ⟨b, 1, none⟩ = some (.slice A0 (Lib.byteCells l).length cap0) := hbk.cellS rfl
  have HBK := Lib.hid hbk
  have HOWN := Lib.hid hown
  have HNE := Lib.hid hneq
  have HL : Hid ((Lib.byteCells l).length = l.length) := Lib.byteCells_length l
  have HL2 : Hid ((Lib.byteCells news).length = news.length) := Lib.byteCells_length news
  have hz : B ≤ w1.heap.size := by omega
  clear hw1 hnews1 hb hown hneq hbk hi
  generalize hN : news.length = N at *
  go_wp2_with (at_builtin; refine wpList_append_own _ rfl (.tmp 12) (.tmp 13) 43 rfl B U8 i (.int .u8 0) 1 1 Tryd.underlying43 HI.out hz0 hz1 hz2 rfl (by decide) _ _ _ rfl HOWN.out ⟨fb, off, none⟩ N c (Lib.byteCells news) rfl (by rw [HL2.out, Nat.mul_one]) HNW.out ?_ ?_ ?_ hz ?_)
  · intro u hu
    obtain ⟨q, _, rfl⟩ := List.mem_map.1 hu; rfl
  · rw [HL.out]; unfold maxLen; omega
  · rw [HL.out]; omega
  · intro v5 w5 hown5 hgr5 _
    have hgr5 : w1.grownBy w5 (Value.ownBlock (.slice A0 (Lib.byteCells l).length cap0)) := hgr5
    obtain ⟨A5, cap5, rfl, hcap5⟩ := row_form hown5
    have hb5 : w5.heap[b]? = some (.cells #[.pointer (some ⟨b, 0, none⟩), .slice A0 (Lib.byteCells l).length cap0] BT (0, 0)) := (hgr5.block b hblt (fun e => HNE.out e.symm)).trans HBK.out
    have hbk5 : Blk w5 b BT #[.pointer (some ⟨b, 0, none⟩), .slice A0 (Lib.byteCells l).length cap0] := hb5
    have c5 : w5.cell? ⟨b, 1, none⟩ = some (.slice A0 (Lib.byteCells l).length cap0) := hbk5.cellS rfl
    have f5 := hbk5.frozen 1
    have hlt5 : b < w5.heap.size := hbk5.lt
    have hrow : ∀ k, (Value.slice A0 (Lib.byteCells l).length cap0).ownBlock = some k → B ≤ k := fun k hk => (HOWN.out.lt k hk).1
    have HB5 : Hid (Below B w1 w5) := ⟨hgr5.os, hgr5.tape, hgr5.output, hgr5.size, fun k hk => hgr5.block k (by omega) (fun e => by have := hrow k e.symm; omega)⟩
    have hlen5 : (Lib.byteCells l).length + N = (Lib.byteCells (l ++ news)).length := by rw [HL.out, Lib.byteCells_length, List.length_append, hN]
    rw [hlen5, ← Lib.byteCells_append] at hown5
    have HAT : Hid (Lib.BuilderAt BT U8 B b (.pointer (some ⟨b, 0, none⟩)) (Lib.byteCells (l ++ news)) (w5.setCell ⟨b, 1, none⟩ (.slice A5 ((Lib.byteCells l).length + N) cap5))) := by
      show Lib.BuilderAt _ _ _ _ _ _ _
      rw [hlen5]
      exact Lib.BuilderAt.put hBb hb5 (by rw [← hlen5] at hown5 ⊢; exact hown5) (by decide)
    clear hown5 hgr5 hb5 hbk5 hrow hlen5 c1
    generalize (Lib.byteCells l).length = n0 at *
    go_wp2
    go_ret2
    exact ⟨by rw [hN]; rfl, .inr HAT.out, HB1.out.trans (HB5.out.setCell hBb _)⟩
end Go.Proofs.YtkandepkojfblaaDoor
