/- rle.Encode: the walk. -/
import Derived.Test.YtlcjadgaommfmaaDoorRlPut
import Derived.Test.YtlcjadgaommfmaaDoorRlF
import Derived.Test.YtlcjadgaommfmaaDoorTidy
import Derived.Test.YtlcjadgaommfmaaDoorBounds
import Derived.Test.YtlcjadgaommfmaaDoorKeep
import Derived.Test.YtlcjadgaommfmaaDoorTextP
import Derived.Deep.CutBlock
import Derived.Deep.DeepCutAuto
namespace Go.Proofs.YtlcjadgaommfmaaDoor
open Go.RowKit

theorem run_cat (a b : List UInt8) (h : a.length + b.length ≤ 9223372036854775807) (w : World) : (Op.stringOp .add (str a) (str b)).run Tryd.prog w = .ok (.string (str (a ++ b))) w := by
  rw [run_string_add_sum w _ _ (by rw [str_size, str_size]; omega), str_append]
/-- The text of cells that are tidied. -/
def EncIs (t : List (Int × Int)) (tx txt : List UInt8) : Prop :=
  (t = [] ∧ txt = encT [] 0 0 0 0 tx) ∨ ∃ x0 y0 x1 y1, t ≠ [] ∧ IsBox t x0 y0 x1 y1 ∧ txt = encT t x0 y0 (x1 - x0 + 1).toNat (y1 - y0 + 1).toNat tx
def EncPost (w : World) (l : List (Int × Int)) (tx : List UInt8) (e : Ending) (w' : World) : Prop :=
  ∃ t txt, e = .returned (.tuple #[.string (str txt), .int .i64 0]) ∧ Tid l t ∧ EncIs t tx txt ∧ txt.length ≤ 300000 ∧ Below w.heap.size w w'
theorem Wr.drewN {w : World} {B b : Nat} {txt : List UInt8} {col : Int} (h : Wr w B b txt col) (n : Nat) : Wr (w.drewN n) B b txt col := by
  obtain ⟨p, v, hp, h1, h2, h3⟩ := h
  exact ⟨p, v, hp, h1, h2, h3⟩
def BoxIs (t : List (Int × Int)) (ok : Bool) (x0 y0 x1 y1 : Int) : Prop :=
  (ok = false ∧ t = [] ∧ x0 = 0 ∧ y0 = 0 ∧ x1 = 0 ∧ y1 = 0) ∨ (ok = true ∧ t ≠ [] ∧ IsBox t x0 y0 x1 y1)
theorem box_any (w : World) (A : Option Addr) (m : Nat) (t : List (Int × Int)) (h : Sl w 50 2 (.slice A m m) m (flat t)) :
    Calls Tryd.prog 12 #[.slice A m m] w fun e w' => ∃ x0 y0 x1 y1 ok, e = .returned (.tuple #[.agg #[.int .i64 x0, .int .i64 y0, .int .i64 x1, .int .i64 y1], .bool ok]) ∧ BoxIs t ok x0 y0 x1 y1 ∧ Below w.heap.size w w' := by
  have hl : t.length = m := h.rd.pairs.1
  by_cases h0 : m = 0
  · subst h0
    refine (bounds_none w A 0).mono ?_
    rintro e w' ⟨rfl, hb⟩
    exact ⟨0, 0, 0, 0, false, rfl, .inl ⟨rfl, List.eq_nil_of_length_eq_zero hl, rfl, rfl, rfl, rfl⟩, hb⟩
  · refine (bounds_any w m _ t h.rd (by omega)).mono ?_
    rintro e w' ⟨x0, y0, x1, y1, rfl, hbox, hb⟩
    exact ⟨x0, y0, x1, y1, true, rfl, .inr ⟨rfl, fun e => h0 (by rw [← hl, e]; rfl), hbox⟩, hb⟩
theorem box_in {l t : List (Int × Int)} {ok : Bool} {x0 y0 x1 y1 : Int} (ht : Tid l t) (hok : ∀ c ∈ l, okC c) (h : BoxIs t ok x0 y0 x1 y1) :
    ((x0 ≤ x1 ∧ y0 ≤ y1) ∧ -1099511627776 < x0 ∧ x1 < 1099511627776) ∧ -1099511627776 < y0 ∧ y1 < 1099511627776 := by
  rcases h with ⟨_, _, rfl, rfl, rfl, rfl⟩ | ⟨_, _, ⟨⟨a, a1, a2⟩, a3⟩, ⟨⟨b, b1, b2⟩, b3⟩, ⟨⟨c, c1, c2⟩, c3⟩, ⟨d, d1, d2⟩, d3⟩
  · omega
  · have e1 := (hok a ((ht.2 a).1 a1)).1
    have e2 := (hok b ((ht.2 b).1 b1)).2
    have e3 := (hok c ((ht.2 c).1 c1)).1
    have e4 := (hok d ((ht.2 d).1 d1)).2
    have e5 := a3 c c1
    have e6 := b3 d d1
    unfold okZ at e1 e2 e3 e4
    omega
theorem RlG.more {B B' : Nat} {w : World} (h : RlG B w) (hB : B ≤ B') : RlG B' w := ⟨h.pow, Nat.lt_of_lt_of_le h.powlt hB, h.m, Nat.lt_of_lt_of_le h.mlt hB⟩
set_option maxRecDepth 100000 in
set_option maxHeartbeats 6400000 in
theorem encode_any (w : World) (n : Nat) (v : Value) (l : List (Int × Int)) (h : Rd w w.heap.size 2 v n (flat l)) (hn : n ≤ 4096) (hok : ∀ c ∈ l, okC c) (b r : Int) (hg : goodR b r) (hG : RlG w.heap.size w) :
    Calls Tryd.prog 8 #[v, .agg #[.int .i64 b, .int .i64 r]] w (EncPost w l (textL b r)) := by
  have hb0 : Below w.heap.size w (w.alloc (.cells #[.int .i64 b, .int .i64 r] 24)) := (Below.refl _ _).alloc (Nat.le_refl _) _
  have hr0 : Blk (w.alloc (.cells #[.int .i64 b, .int .i64 r] 24)) w.heap.size 24 #[.int .i64 b, .int .i64 r] := Blk.new w _ _
  have HTI := Lib.hid (tidy_ok _ w.heap.size n v l (h.below hb0) hb0.size hn hok)
  have HB0 := Lib.hid hb0
  have HR0 := Lib.hid hr0
  have HTX := Lib.hid (fun w => text_good w b r hg)
  have HTL : Hid ((textL b r).length ≤ 24) := by
    have h1 := digs_len b 9
    have h2 := digs_len r 9
    show _ ≤ _
    unfold textL
    simp only [List.length_append, List.length_cons]
    omega
  have HG := Lib.hid hG
  have HOK := Lib.hid hok
  have HN := Lib.hid hn
  have HLN : Hid (l.length = n) := h.pairs.1
  unfold TidyPost at HTI
  unfold TextPost at HTX
  clear h hn hok hg hG hb0 hr0
  generalize textL b r = tx at *
  go_enter Tryd.func8, Tryd.ntmps8
  go_wp2_with fail
  (with_reducible refine HTI.out.mono ?_)
  rintro e w1 ⟨A, m, t, rfl, htid, hsl, hnew, hb1⟩
  have HT := Lib.hid htid
  have HSL := Lib.hid hsl
  have HB1 : Hid (Below w.heap.size w w1) := HB0.out.trans (hb1.mono HB0.out.size)
  have hr1 := HR0.out.mod (Mod.of_below_all hb1) (fun x => x)
  have HR1 := Lib.hid hr1
  have r0 := hr1.cellS (i := 0) rfl
  have r1 := hr1.cellS (i := 1) rfl
  clear htid hsl hnew hb1 hr1
  go_wp2_with fail
  (with_reducible refine (HTX.out _).mono ?_)
  rintro e w2 ⟨rfl, hb2⟩
  have HB2 : Hid (Below w.heap.size w w2) := HB1.out.trans (hb2.mono HB1.out.size)
  have HS2 := Lib.hid (HSL.out.mod (Mod.of_below_all hb2) (fun _ _ h => h))
  clear hb2 HSL r0 r1
  go_wp2_with fail
  (with_reducible refine (box_any _ A m t HS2.out).mono ?_)
  rintro e w3 ⟨x0, y0, x1, y1, ok, rfl, hbox, hb3⟩
  have HBOX := Lib.hid hbox
  have HB3 : Hid (Below w.heap.size w w3) := HB2.out.trans (hb3.mono HB2.out.size)
  have HS3 := Lib.hid (HS2.out.mod (Mod.of_below_all hb3) (fun _ _ h => h))
  clear hb3 HS2 hbox
  have HBX : Hid (((x0 ≤ x1 ∧ y0 ≤ y1) ∧ -1099511627776 < x0 ∧ x1 < 1099511627776) ∧ -1099511627776 < y0 ∧ y1 < 1099511627776) := box_in HT.out HOK.out HBOX.out
  have hx := Blk.new w3 38 #[.int .i64 x0, .int .i64 y0, .int .i64 x1, .int .i64 y1]
  have hx5 := hx.alloc (.cells #[.pointer none, .slice none 0 0, .int .i64 0] RW)
  have HX5 := Lib.hid hx5
  have q0 := hx5.cellS (i := 0) rfl
  have q1 := hx5.cellS (i := 1) rfl
  have q2 := hx5.cellS (i := 2) rfl
  have q3 := hx5.cellS (i := 3) rfl
  have HS5 := Lib.hid ((HS3.out.alloc (.cells #[.int .i64 x0, .int .i64 y0, .int .i64 x1, .int .i64 y1] 38)).alloc (.cells #[.pointer none, .slice none 0 0, .int .i64 0] RW))
  have HSL : Hid (∀ k, sblk (.slice A m m) = some k → k < w3.heap.size) := fun k hk => (HS3.out.lt hk).1
  have HB5 : Hid (Below w.heap.size w ((w3.alloc (.cells #[.int .i64 x0, .int .i64 y0, .int .i64 x1, .int .i64 y1] 38)).alloc (.cells #[.pointer none, .slice none 0 0, .int .i64 0] RW))) := (HB3.out.alloc HB3.out.size _).alloc (by have := HB3.out.size; rw [World.size_alloc]; omega) _
  have HWR : Hid (Wr ((w3.alloc (.cells #[.int .i64 x0, .int .i64 y0, .int .i64 x1, .int .i64 y1] 38)).alloc (.cells #[.pointer none, .slice none 0 0, .int .i64 0] RW)) (w3.heap.size + 1) (w3.heap.size + 1) [] 0) :=
    ⟨_, _, .inl rfl, Nat.le_refl _, by have := Blk.new (w3.alloc (.cells #[.int .i64 x0, .int .i64 y0, .int .i64 x1, .int .i64 y1] 38)) RW #[.pointer none, .slice none 0 0, .int .i64 0]; rwa [World.size_alloc] at this, World.ownsRow_nil _ _ _ _⟩
  have hz5 : ((w3.alloc (.cells #[.int .i64 x0, .int .i64 y0, .int .i64 x1, .int .i64 y1] 38)).alloc (.cells #[.pointer none, .slice none 0 0, .int .i64 0] RW)).heap.size = w3.heap.size + 1 + 1 := by rw [World.size_alloc, World.size_alloc]
  have HZ5 := Lib.hid hz5
  clear hx hx5
  go_upto_if 40 with fail
  generalize hw5 : ((w3.alloc (.cells #[.int .i64 x0, .int .i64 y0, .int .i64 x1, .int .i64 y1] 38)).alloc (.cells #[.pointer none, .slice none 0 0, .int .i64 0] RW)) = w5 at *
  go_cut [12, 13] (fun a b wx => ∃ W H : Nat, a = .int .i64 W ∧ b = .int .i64 H ∧ (ok = false ∧ W = 0 ∧ H = 0 ∨ ok = true ∧ W = (x1 - x0 + 1).toNat ∧ H = (y1 - y0 + 1).toNat) ∧ Below w5.heap.size w5 wx)
  case first =>
    obtain ⟨⟨⟨o1, o2⟩, o3, o4⟩, o5, o6⟩ := HBX.out
    cases ok
    · go_wp2_with fail
      go_meet
      exact ⟨0, 0, rfl, rfl, by simp, Below.refl _ _⟩
    · have E1 : Hid (x1 - x0 + 1 = ((x1 - x0 + 1).toNat : Int)) := by show _ = _; omega
      have E2 : Hid (y1 - y0 + 1 = ((y1 - y0 + 1).toNat : Int)) := by show _ = _; omega
      go_wp2_with fail
      go_quiet (fail)
      all_goals
        go_wp2_with fail
        go_meet
        refine ⟨(x1 - x0 + 1).toNat, (y1 - y0 + 1).toNat, ?_, ?_, by simp, ?_⟩
        · rw [← E1.out]
        · rw [← E2.out]
        · exact ⟨rfl, rfl, rfl, Nat.le_refl _, fun _ _ => rfl⟩
  obtain ⟨W, H, rfl, rfl, hwh, hbc⟩ := hcut
  have HWH := Lib.hid hwh
  have HBC := Lib.hid hbc
  have HWB : Hid (W < 10000000000000 ∧ H < 10000000000000) := by
    obtain ⟨⟨⟨o1, o2⟩, o3, o4⟩, o5, o6⟩ := HBX.out
    show _ ∧ _
    rcases hwh with ⟨_, h1, h2⟩ | ⟨_, h1, h2⟩ <;> omega
  clear hwh hbc q0 q1 q2 q3
  have HG5 : Hid (RlG (w3.heap.size + 1) w5) := (HG.out.below HB5.out).more (Nat.le_trans HB3.out.size (Nat.le_succ _))
  have HGC : Hid (RlG (w3.heap.size + 1) wc) := ((HG.out.below HB5.out).more (Nat.le_trans HB3.out.size (Nat.le_succ _))).below (HBC.out.mono (by rw [hz5]; omega))
  have HWC := Lib.hid (HWR.out.mod HBC.out)
  have HIW := Lib.hid (fun w' (h : Below wc.heap.size wc w') => itoa_any w' W HWB.out.1 (HGC.out.below (h.mono (by have := HBC.out.size; omega))))
  have HIH := Lib.hid (fun w' (h : Below wc.heap.size wc w') => itoa_any w' H HWB.out.2 (HGC.out.below (h.mono (by have := HBC.out.size; omega))))
  have hlw := decD_len 12 W (by have := HWB.out.1; omega)
  have hlh := decD_len 12 H (by have := HWB.out.2; omega)
  have htl := HTL.out
  have hht : headT W H tx ++ [10] = ((((([120, 32, 61, 32] ++ Lib.decDigits W) ++ [44, 32, 121, 32, 61, 32]) ++ Lib.decDigits H) ++ [44, 32, 114, 117, 108, 101, 32, 61, 32]) ++ tx) ++ [10] := by
    unfold headT
    simp only [List.append_assoc]
  generalize Lib.decDigits W = DW at *
  generalize Lib.decDigits H = DH at *
  have g1 := run_cat [120, 32, 61, 32] DW (by simp only [List.length_cons, List.length_nil]; omega)
  have g2 := run_cat ([120, 32, 61, 32] ++ DW) [44, 32, 121, 32, 61, 32] (by simp only [List.length_append, List.length_cons, List.length_nil]; omega)
  have g3 := run_cat (([120, 32, 61, 32] ++ DW) ++ [44, 32, 121, 32, 61, 32]) DH (by simp only [List.length_append, List.length_cons, List.length_nil]; omega)
  have g4 := run_cat ((([120, 32, 61, 32] ++ DW) ++ [44, 32, 121, 32, 61, 32]) ++ DH) [44, 32, 114, 117, 108, 101, 32, 61, 32] (by simp only [List.length_append, List.length_cons, List.length_nil]; omega)
  have g5 := run_cat (((([120, 32, 61, 32] ++ DW) ++ [44, 32, 121, 32, 61, 32]) ++ DH) ++ [44, 32, 114, 117, 108, 101, 32, 61, 32]) tx (by simp only [List.length_append, List.length_cons, List.length_nil]; omega)
  have g6 := run_cat ((((([120, 32, 61, 32] ++ DW) ++ [44, 32, 121, 32, 61, 32]) ++ DH) ++ [44, 32, 114, 117, 108, 101, 32, 61, 32]) ++ tx) [10] (by simp only [List.length_append, List.length_cons, List.length_nil]; omega)
  have HHL : Hid ((headT W H tx ++ [10]).length ≤ 100) := headT_len HWB.out.1 HWB.out.2 htl
  rw [← hht] at g6
  rw [show str [120, 32, 61, 32] = ⟨#[120, 32, 61, 32]⟩ from rfl] at g1
  rw [show str [44, 32, 121, 32, 61, 32] = ⟨#[44, 32, 121, 32, 61, 32]⟩ from rfl] at g2
  rw [show str [44, 32, 114, 117, 108, 101, 32, 61, 32] = ⟨#[44, 32, 114, 117, 108, 101, 32, 61, 32]⟩ from rfl] at g4
  rw [show str [10] = ⟨#[10]⟩ from rfl] at g6
  clear hht hlw hlh htl
  generalize (((((([120, 32, 61, 32] ++ DW) ++ [44, 32, 121, 32, 61, 32]) ++ DH) ++ [44, 32, 114, 117, 108, 101, 32, 61, 32]) ++ tx)) = s5 at *
  generalize ((((([120, 32, 61, 32] ++ DW) ++ [44, 32, 121, 32, 61, 32]) ++ DH) ++ [44, 32, 114, 117, 108, 101, 32, 61, 32])) = s4 at *
  generalize (((([120, 32, 61, 32] ++ DW) ++ [44, 32, 121, 32, 61, 32]) ++ DH)) = s3 at *
  generalize ((([120, 32, 61, 32] ++ DW) ++ [44, 32, 121, 32, 61, 32])) = s2 at *
  generalize ([120, 32, 61, 32] ++ DW) = s1 at *
  generalize hhd : headT W H tx ++ [10] = hd at *
  have HHD := Lib.hid hhd
  clear hhd
  generalize hz3 : w3.heap.size + 1 = S at *
  have HZ3 := Lib.hid hz3
  clear hz3
  have HR0 : Hid (Below wc.heap.size wc wc) := Below.refl _ _
  have HWS : Hid (∀ w', Below wc.heap.size wc w' → Calls Tryd.prog 20 #[.pointer (some ⟨S, 0, none⟩), .string (str hd)] w' fun e w'' => e = .returned (.tuple #[.int .i64 (hd.length : Int), .nilIface]) ∧ Wr w'' S S ([] ++ hd) 0 ∧ Below S w' w'') := fun w' h => wstr_any (HWC.out.mod h) hd (by have := HHL.out; simp only [List.length_nil]; omega)
  go_upto_region 12 with fail
  go_region_held3 (fun _ => True) (trivial)
    (first
      | (go_at_call_of 21 (Value.int .i64 (W : Int)); refine (HIW.out _ (by exact ⟨HR0.out.os, HR0.out.tape, HR0.out.output, HR0.out.size, HR0.out.block⟩)).mono ?_; rintro e w6 ⟨rfl, hb6⟩; have HB6 : Hid (Below wc.heap.size wc w6) := (show Below wc.heap.size wc w6 from ⟨hb6.os, hb6.tape, hb6.output, hb6.size, hb6.block⟩))
      | (go_at_call_of 21 (Value.int .i64 (H : Int)); refine (HIH.out _ (by exact ⟨HB6.out.os, HB6.out.tape, HB6.out.output, HB6.out.size, HB6.out.block⟩)).mono ?_; rintro e w7 ⟨rfl, hb7⟩; have HB7 : Hid (Below wc.heap.size wc w7) := HB6.out.trans ((show Below w6.heap.size w6 w7 from ⟨hb7.os, hb7.tape, hb7.output, hb7.size, hb7.block⟩).mono HB6.out.size))
      | (refine (HWS.out _ (by exact ⟨HB7.out.os, HB7.out.tape, HB7.out.output, HB7.out.size, HB7.out.block⟩)).mono ?_; rintro e w8 ⟨rfl, hw8, hb8⟩))
  have HB8 : Hid (Below S w5 w8) := (HBC.out.mono (by rw [hz5]; omega)).trans ((HB7.out.mono (by have := HBC.out.size; omega)).trans (show Below S w7 w8 from ⟨hb8.os, hb8.tape, hb8.output, hb8.size, hb8.block⟩))
  have HW8 : Hid (Wr w8 S S hd ((0 : Nat) : Int)) := hw8
  clear hb6 hb7 hb8 hw8 HWS HR0 HB6 HB7 HIW HIH HGC HWC HWR g1 g2 g3 g4 g5 g6
  have hcs : ∃ bk off, (0 < m → A = some ⟨bk, off, none⟩ ∧ bk < S) ∧ ∀ i, i < m → w5.cell? ⟨bk, off + i * 2, none⟩ = some (.int .i64 (t[i]!).1) ∧ w5.cell? ⟨bk, off + i * 2 + 1, none⟩ = some (.int .i64 (t[i]!).2) := by
    obtain ⟨_, hat⟩ := HS5.out.rd.pairs
    by_cases h0 : 0 < m
    · obtain ⟨bk, off, cap, e, _, _, hlt, hc⟩ := hat h0
      injection e with e1 e2 e3
      exact ⟨bk, off, fun _ => ⟨e1, by have := HSL.out bk (by rw [e1]; rfl); have := HZ3.out; omega⟩, hc⟩
    · exact ⟨0, 0, fun h => absurd h h0, fun i hi => by omega⟩
  obtain ⟨bk, off, hbk, hcs⟩ := hcs
  have HBK := Lib.hid hbk
  have HCS := Lib.hid hcs
  have HTM : Hid (t.length = m) := HS5.out.rd.pairs.1
  have HML : Hid (m ≤ 4096) := by
    have h1 := tid_length HT.out
    have h2 := HTM.out
    have h3 := HLN.out
    have h4 := HN.out
    show _ ≤ _
    omega
  have hml := HML.out
  have hx8 : Blk w8 w3.heap.size 38 #[.int .i64 x0, .int .i64 y0, .int .i64 x1, .int .i64 y1] := (HB8.out.block _ (by have := HZ3.out; omega)).trans HX5.out
  have q0 := hx8.cellS (i := 0) rfl
  have q1 := hx8.cellS (i := 1) rfl
  clear hbk hcs hx8
  go_wp2_with fail
  go_quiet (fail)
  go_wp2_with fail
  go_loopw [6, 14, 15] (fun sv xv yv wx => ∃ (k f : Nat) (x y : Int) (txt : List UInt8) (col : Nat) (A' : Option Addr), k ≤ m ∧ m - k ≤ f ∧ xv = .int .i64 x ∧ yv = .int .i64 y ∧ sv = .slice A' (m - k) (m - k) ∧ (k < m → A' = some ⟨bk, off + k * 2, none⟩) ∧
      (x0 ≤ x ∧ y0 ≤ y) ∧ (∀ d, t[k]? = some d → y < d.2 ∨ y = d.2 ∧ x ≤ d.1) ∧ encS f x0 (t.drop k) x y (txt, col) = encS m x0 t x0 y0 (hd, 0) ∧ col ≤ 70 ∧ txt.length ≤ 100 + 60 * k ∧ Wr wx S S txt (col : Int) ∧ Below S w5 wx) (fun sv _ _ _ => match sv with | .slice _ n _ => n | _ => 0)
  case atStart =>
    refine ⟨0, m, x0, y0, hd, 0, A, Nat.zero_le _, Nat.le_refl _, rfl, rfl, rfl, fun h => (HBK.out h).1, ⟨Int.le_refl _, Int.le_refl _⟩, fun d hd => ?_, rfl, by decide, by have := HHL.out; omega, HW8.out.drewN _, below_drewN HB8.out _⟩
    have hm : d ∈ t := List.mem_iff_getElem?.2 ⟨0, hd⟩
    rcases HBOX.out with ⟨_, e, _⟩ | ⟨_, _, hb⟩
    · rw [e] at hm; cases hm
    · have h1 := hb.1.2 d hm
      have h2 := hb.2.1.2 d hm
      omega
  case round =>
    obtain ⟨k, f, x, y, txt, col, A', hk, hf, rfl, rfl, rfl, hA, hxy, hnext, henc, hcol, htx, hwr, hbw⟩ := hrel
    generalize wr = wo at *
    have HXY := Lib.hid hxy
    have HNX := Lib.hid hnext
    have HENC := Lib.hid henc
    have HCOL := Lib.hid hcol
    have HTXL := Lib.hid htx
    have HWR := Lib.hid hwr
    have HBW := Lib.hid hbw
    have HKF := Lib.hid hf
    clear hxy hnext henc hcol htx hwr hbw hf q0 q1
    by_cases hkm : k < m
    · obtain rfl := hA hkm
      obtain ⟨q, hq, hdk, hqm, hdq, hrun, hnx⟩ := enc_next (t := t) (k := k) (by exact HT.out.1) (by rw [HTM.out]; exact hkm)
      rw [HTM.out] at hqm hrun
      have HQ := Lib.hid hq
      have HDK := Lib.hid hdk
      have HDQ := Lib.hid hdq
      have HRUN := Lib.hid hrun
      have HNX2 := Lib.hid hnx
      have hcm : t[k]! ∈ t := by rw [List.getElem!_eq_getElem?_getD, List.getElem?_eq_getElem (by rw [HTM.out]; exact hkm)]; simp
      have hco := HOK.out _ ((HT.out.2 _).1 hcm)
      have hcb : x0 ≤ (t[k]!).1 ∧ y0 ≤ (t[k]!).2 := by
        rcases HBOX.out with ⟨_, e, _⟩ | ⟨_, _, hb⟩
        · rw [e] at hcm; cases hcm
        · exact ⟨hb.1.2 _ hcm, hb.2.1.2 _ hcm⟩
      have hny := HNX.out (t[k]!) (by rw [List.getElem!_eq_getElem?_getD, List.getElem?_eq_getElem (by rw [HTM.out]; exact hkm)]; rfl)
      unfold okC okZ at hco
      have HCELL : Hid (∀ wx, Below S w5 wx → ∀ j, k + j < m → wx.cell? ⟨bk, off + k * 2 + j * 2, none⟩ = some (.int .i64 (t[k + j]!).1) ∧ wx.cell? ⟨bk, off + k * 2 + j * 2 + 1, none⟩ = some (.int .i64 (t[k + j]!).2)) := fun wx hb j hj => by
        have hbl := (HBK.out (by omega)).2
        obtain ⟨c1, c2⟩ := HCS.out (k + j) hj
        rw [show off + k * 2 + j * 2 = off + (k + j) * 2 by omega]
        exact ⟨(hb.cell (p := ⟨bk, off + (k + j) * 2, none⟩) hbl).trans c1, (hb.cell (p := ⟨bk, off + (k + j) * 2 + 1, none⟩) hbl).trans c2⟩
      have HCK : Hid (∀ wx, Below S w5 wx → wx.cell? ⟨bk, off + k * 2, none⟩ = some (.int .i64 (t[k]!).1) ∧ wx.cell? ⟨bk, off + k * 2 + 1, none⟩ = some (.int .i64 (t[k]!).2)) := fun wx hb => by
        have := HCELL.out wx hb 0 (by omega)
        simpa using this
      have HML2 : Hid (m ≤ maxLen) := by show _ ≤ _; unfold maxLen; omega
      clear hq hdk hdq hrun hnx hcm
      have HSTEP := Lib.hid (fun f => encS_step f x0 t[k]! (t.drop (k + 1)) x y (txt, col))
      rw [← HQ.out] at HSTEP
      generalize hck : t[k]! = c at *
      obtain ⟨cx, cy⟩ := c
      have HCK2 := Lib.hid hck
      clear hck
      dsimp only at hco hcb hny
      have HCO := Lib.hid hco
      have HCB := Lib.hid hcb
      have HNY := Lib.hid hny
      clear hco hcb hny
      generalize hmk : m - k = mk at *
      have hmkl : 0 < (mk : Int) := by omega
      have hmk2 : mk ≤ 4096 := by omega
      generalize ho2 : off + k * 2 = o2 at *
      have HMK := Lib.hid hmk
      have HO2 := Lib.hid ho2
      clear ho2 hmk
      go_wp2_with fail
      go_loopw [16] (fun nv wx => ∃ j : Nat, 1 ≤ j ∧ j ≤ q + 1 ∧ nv = .int .i64 j ∧ Below wo.heap.size wo wx) (fun nv _ => m - (intOf nv).toNat)
      case atStart => exact ⟨1, Nat.le_refl _, by omega, rfl, Below.refl _ _⟩
      case round =>
        obtain ⟨j, hj1, hj2, rfl, hbj⟩ := hrel
        have HBJ := Lib.hid hbj
        clear hbj
        have HBWJ : Hid (Below S w5 wr) := HBW.out.trans (HBJ.out.mono (by have := HBW.out.size; omega))
        obtain ⟨c0, c1⟩ := HCK.out wr HBWJ.out
        go_upto_region 16 with fail
        go_cut [104] (fun sv wx => sv = .bool (decide (j < q + 1)) ∧ Below wo.heap.size wo wx)
        case first =>
          have j0 : 0 ≤ (j : Int) := by omega
          have j9 : (j : Int) ≤ 5000 := by omega
          obtain ⟨⟨o1, o2⟩, o3, o4⟩ := HCO.out
          by_cases hjm : k + j < m
          · obtain ⟨d0, d1⟩ := HCELL.out wr HBWJ.out j hjm
            have hiff := HRUN.out j hj1 hj2 hjm
            have j1 : (j : Int) < (mk : Int) := by have := HMK.out; omega
            have g0 : decide ((j : Int) < (mk : Int)) = true := decide_eq_true j1
            generalize t[k + j]! = d at *
            obtain ⟨dx, dy⟩ := d
            dsimp only at d0 d1 hiff
            by_cases e1 : dy = cy
            · by_cases e2 : dx = cx + (j : Int)
              · have HV : Hid (decide (j < q + 1) = true) := decide_eq_true (hiff.1 ⟨e1, e2⟩)
                subst e1
                have g2 : (dx == cx + (j : Int)) = true := by simpa using e2
                clear e2 hiff
                go_quiet (fail)
                go_wp2_with fail
                go_meet
                exact ⟨by rw [HV.out], below_drewN HBJ.out _⟩
              · have HV : Hid (decide (j < q + 1) = false) := decide_eq_false fun h => e2 (hiff.2 h).2
                subst e1
                have g2 : (dx == cx + (j : Int)) = false := by simpa using e2
                clear e2 hiff
                go_quiet (fail)
                go_wp2_with fail
                go_meet
                exact ⟨by rw [HV.out], below_drewN HBJ.out _⟩
            · have HV : Hid (decide (j < q + 1) = false) := decide_eq_false fun h => e1 (hiff.2 h).1
              have g2 : (dy == cy) = false := by simpa using e1
              clear e1 hiff
              go_quiet (fail)
              go_wp2_with fail
              go_meet
              exact ⟨by rw [HV.out], below_drewN HBJ.out _⟩
          · have HV : Hid (decide (j < q + 1) = false) := decide_eq_false (by omega)
            have j1 : ¬ (j : Int) < (mk : Int) := by have := HMK.out; omega
            have g0 : decide ((j : Int) < (mk : Int)) = false := decide_eq_false j1
            go_quiet (fail)
            go_wp2_with fail
            go_meet
            exact ⟨by rw [HV.out], below_drewN HBJ.out _⟩
        obtain ⟨rfl, hbc2⟩ := hcut
        generalize wc = w9 at *
        have HB9 := Lib.hid hbc2
        have HBW9 : Hid (Below S w5 w9) := HBW.out.trans (HB9.out.mono (by have := HBW.out.size; omega))
        have HWR9 : Hid (Wr w9 S S txt (col : Int)) := HWR.out.mod HB9.out
        clear hbc2 c0 c1
        by_cases hjq : j < q + 1
        · rw [decide_eq_true hjq]
          have hj3 : (j : Int) ≤ 5000 := by omega
          go_wp2_with fail
          go_roundw
          case rel => exact ⟨j + 1, by omega, by omega, by go_num, HB9.out⟩
          case measure => simp [intOf]; omega
        · obtain rfl : j = q + 1 := by omega
          rw [decide_eq_false hjq]
          obtain ⟨c0, c1⟩ := HCK.out w9 HBW9.out
          clear hjq
          have HSZ9 : Hid (S ≤ w9.heap.size) := by have := HBW9.out.size; show _ ≤ _; omega
          have HG9 : Hid (RlG S w9) := HG5.out.below HBW9.out
          have HP1 : Hid ((cy - y).toNat < 10000000000000) := by
            obtain ⟨⟨o1, o2⟩, o3, o4⟩ := HCO.out
            obtain ⟨o5, o6⟩ := HXY.out
            obtain ⟨⟨_, _, _⟩, o7, _⟩ := HBX.out
            show _ < _
            omega
          go_upto_if 112 with fail
          go_cut [14, 15] (fun xv yv wx => ∃ txt2 col2, (txt2, col2) = upS (txt, col) cy y ∧ xv = .int .i64 (upX x0 x cy y) ∧ yv = .int .i64 cy ∧ Wr wx S S txt2 ((col2 : Nat) : Int) ∧ Below S w5 wx)
          case first =>
            by_cases hyc : y < cy
            · have HP : Hid (Calls Tryd.prog 22 #[.pointer (some ⟨S, 0, none⟩), .int .i64 (cy - y), .int .u8 36] w9 (PutPost w9 S S (layP (txt, col) ((cy - y).toNat, 36)))) := by
                have e : cy - y = ((cy - y).toNat : Int) := by omega
                have := put_any HWR9.out HG9.out HSZ9.out (cy - y).toNat HP1.out 36 (by decide) (by have := HCOL.out; omega) (by have := HTXL.out; omega)
                rw [← e] at this
                exact this
              unfold PutPost at HP
              have HU : Hid (upS (txt, col) cy y = layP (txt, col) ((cy - y).toNat, 36)) := if_pos hyc
              have HU2 : Hid (upX x0 x cy y = x0) := if_pos hyc
              obtain ⟨⟨o1, o2⟩, o3, o4⟩ := HCO.out
              obtain ⟨o5, o6⟩ := HXY.out
              obtain ⟨⟨_, _, _⟩, o7, _⟩ := HBX.out
              go_wp2_with fail
              (with_reducible refine HP.out.mono ?_)
              rintro e w10 ⟨rfl, hw10, hb10⟩
              have HB10 : Hid (Below S w5 w10) := HBW9.out.trans hb10
              have HW10 := Lib.hid hw10
              clear c0 c1 hb10 hw10
              obtain ⟨c0, c1⟩ := HCK.out w10 HB10.out
              have hx10 : Blk w10 w3.heap.size 38 #[.int .i64 x0, .int .i64 y0, .int .i64 x1, .int .i64 y1] := (HB10.out.block _ (by have := HZ3.out; omega)).trans HX5.out
              have q0 := hx10.cellS (i := 0) rfl
              clear hx10
              go_wp2_with fail
              go_quiet (fail)
              go_wp2_with fail
              go_meet
              exact ⟨_, _, HU.out.symm, by rw [HU2.out], rfl, HW10.out.drewN _, below_drewN HB10.out _⟩
            · have HU : Hid (upS (txt, col) cy y = (txt, col)) := if_neg hyc
              have HU2 : Hid (upX x0 x cy y = x) := if_neg hyc
              have HY : Hid (y = cy) := by
                show _ = _
                rcases HNY.out with h | h
                · exact absurd h hyc
                · exact h.1
              go_wp2_with fail
              go_meet
              exact ⟨_, _, HU.out.symm, by rw [HU2.out], by rw [HY.out], HWR9.out, HBW9.out⟩
          obtain ⟨txt2, col2, hst2, rfl, rfl, hw2, hb2⟩ := hcut
          generalize wc = w11 at *
          have HST2 := Lib.hid hst2
          have HW11 := Lib.hid hw2
          have HB11 := Lib.hid hb2
          have HL2 : Hid (txt2.length ≤ txt.length + 15 ∧ col2 ≤ 70) := by
            have := upS_len (st := (txt, col)) HP1.out HCOL.out
            rw [← hst2] at this
            exact this
          clear hst2 hw2 hb2 c0 c1
          have HX2 : Hid (upX x0 x cy y ≤ cx ∧ x0 ≤ upX x0 x cy y) := by
            show _ ∧ _
            unfold upX
            obtain ⟨o5, o6⟩ := HXY.out
            obtain ⟨o7, _⟩ := HCB.out
            rcases HNY.out with h | h
            · rw [if_pos h]; omega
            · rw [if_neg (by omega)]; omega
          generalize upX x0 x cy y = xx at *
          obtain ⟨c0, c1⟩ := HCK.out w11 HB11.out
          have HP2 : Hid ((cx - xx).toNat < 10000000000000) := by
            obtain ⟨⟨o1, o2⟩, o3, o4⟩ := HCO.out
            obtain ⟨o5, o6⟩ := HX2.out
            obtain ⟨⟨_, o7, _⟩, _⟩ := HBX.out
            show _ < _
            omega
          have HP : Hid (Calls Tryd.prog 22 #[.pointer (some ⟨S, 0, none⟩), .int .i64 (cx - xx), .int .u8 98] w11 (PutPost w11 S S (layP (txt2, col2) ((cx - xx).toNat, 98)))) := by
            have e : cx - xx = ((cx - xx).toNat : Int) := by have := HX2.out; omega
            have := put_any HW11.out (HG5.out.below HB11.out) (by have := HB11.out.size; omega) (cx - xx).toNat HP2.out 98 (by decide) (by have := HL2.out; omega) (by have := HL2.out; have := HTXL.out; omega)
            rw [← e] at this
            exact this
          have hl3 := layP_len (st := (txt2, col2)) (p := ((cx - xx).toNat, 98)) HP2.out HL2.out.2
          have HS3 := Lib.hid (HSTEP.out)
          rw [← HST2.out] at HS3
          unfold PutPost at HP
          generalize layP (txt2, col2) ((cx - xx).toNat, 98) = st3 at *
          obtain ⟨txt3, col3⟩ := st3
          dsimp only at HP hl3
          have HL3 := Lib.hid hl3
          clear hl3
          obtain ⟨⟨o1, o2'⟩, o3, o4⟩ := HCO.out
          obtain ⟨o5, o6⟩ := HX2.out
          obtain ⟨⟨_, o7, o7'⟩, o8, _⟩ := HBX.out
          go_wp2_with fail
          (with_reducible refine HP.out.mono ?_)
          rintro e w12 ⟨rfl, hw12, hb12⟩
          have HB12 : Hid (Below S w5 w12) := HB11.out.trans hb12
          have HW12 := Lib.hid hw12
          clear c0 c1 hb12 hw12
          obtain ⟨c0, c1⟩ := HCK.out w12 HB12.out
          have HP4 : Hid (Calls Tryd.prog 22 #[.pointer (some ⟨S, 0, none⟩), .int .i64 ((q : Int) + 1), .int .u8 111] w12 (PutPost w12 S S (layP (txt3, col3) (q + 1, 111)))) := by
            have e : ((q + 1 : Nat) : Int) = (q : Int) + 1 := by omega
            have h2 := HL2.out
            have h3 := HL3.out
            have h4 := HTXL.out
            have := put_any HW12.out (HG5.out.below HB12.out) (by have := HB12.out.size; omega) (q + 1) (by omega) 111 (by decide) (by omega) (by omega)
            rw [e] at this
            exact this
          have hl4 := layP_len (st := (txt3, col3)) (p := (q + 1, 111)) (by dsimp only; omega) HL3.out.2
          unfold PutPost at HP4
          generalize layP (txt3, col3) (q + 1, 111) = st4 at *
          obtain ⟨txt4, col4⟩ := st4
          dsimp only at HP4 hl4
          have HL4 := Lib.hid hl4
          clear hl4
          go_wp2_with fail
          (with_reducible refine HP4.out.mono ?_)
          rintro e w13 ⟨rfl, hw13, hb13⟩
          have HB13 : Hid (Below S w5 w13) := HB12.out.trans hb13
          have HW13 := Lib.hid hw13
          clear c0 c1 hb13 hw13
          obtain ⟨c0, c1⟩ := HCK.out w13 HB13.out
          have hq5 : (q : Int) ≤ 5000 := by omega
          have hq6 : (q : Int) + 1 ≤ (mk : Int) := by have := HMK.out; omega
          go_wp2_with fail
          have hf2 := HKF.out
          have hmk2' := HMK.out
          obtain ⟨f', rfl⟩ : ∃ f', f = f' + 1 := ⟨f - 1, by omega⟩
          have e1 : m - (k + (q + 1)) = mk - (q + 1) := by omega
          have h2 := HL2.out
          have h3 := HL3.out
          have h4 := HL4.out
          have h5 := HTXL.out
          refine ⟨⟨k + (q + 1), f', cx + ((q : Int) + 1), cy, txt4, col4, _, by omega, by omega, rfl, rfl, by rw [e1], fun hlt => ?_, ⟨by omega, HCB.out.2⟩, fun d hd => ?_, ?_, h4.2, by omega, HW13.out, HB13.out⟩, ?_⟩
          · rw [if_neg (by omega)]
            have := HO2.out
            rw [show off + (k + (q + 1)) * 2 = o2 + (q + 1) * 2 by omega]
          · have := HNX2.out d (by rw [show k + 1 + q = k + (q + 1) by omega]; exact hd)
            have e : ((q + 1 : Nat) : Int) = (q : Int) + 1 := by omega
            rw [e] at this
            exact this
          · rw [← HENC.out, HDK.out, HS3.out f', HDQ.out, show k + 1 + q = k + (q + 1) by omega]
            have e : ((q + 1 : Nat) : Int) = (q : Int) + 1 := by omega
            rw [e]
          · show mk - (q + 1) < mk
            omega
    · obtain rfl : k = m := by omega
      have HP : Hid (Calls Tryd.prog 22 #[.pointer (some ⟨S, 0, none⟩), .int .i64 1, .int .u8 33] wo (PutPost wo S S (layP (txt, col) (1, 33)))) :=
        put_any HWR.out (HG5.out.below HBW.out) (by have := HBW.out.size; omega) 1 (by decide) 33 (by decide) (by have := HCOL.out; omega) (by have := HTXL.out; omega)
      have HEN : Hid (encT t x0 y0 W H tx = (layP (txt, col) (1, 33)).1 ++ [10]) := by
        have h1 := HENC.out
        rw [List.drop_eq_nil_of_le (by rw [HTM.out]; exact Nat.le_refl _), encS_nil] at h1
        show _ = _
        rw [encS_text, HHD.out, HTM.out, ← h1]
      have hl5 := layP_len (st := (txt, col)) (p := (1, 33)) (by decide) HCOL.out
      unfold PutPost at HP
      generalize layP (txt, col) (1, 33) = st5 at *
      obtain ⟨txt5, col5⟩ := st5
      dsimp only at HP HEN hl5
      have HL5 := Lib.hid hl5
      have hmm : k - k = 0 := Nat.sub_self k
      clear hl5
      rw [hmm]
      go_wp2_with fail
      (with_reducible refine HP.out.mono ?_)
      rintro e w6 ⟨rfl, hw6, hb6⟩
      have HB6 : Hid (Below S w5 w6) := HBW.out.trans hb6
      have HL6 := Lib.hid (line_any hw6 (by have := HL5.out; have := HTXL.out; omega))
      clear hb6 hw6
      go_wp2_with fail
      (with_reducible refine HL6.out.mono ?_)
      rintro e w7' ⟨rfl, hw7, hb7⟩
      have HB7' : Hid (Below S w5 w7') := HB6.out.trans hb7
      have HT7 := Lib.hid (wtext_any hw7 (by simp))
      clear hb7 hw7
      go_wp2_with fail
      (with_reducible refine HT7.out.mono ?_)
      rintro e w8' ⟨rfl, hb8⟩
      have HB8' : Hid (Below S w5 w8') := HB7'.out.trans hb8
      clear hb8
      go_wp2_with fail
      go_ret2
      refine ⟨t, _, rfl, HT.out, ?_, by have h5 := HL5.out; have h6 := HTXL.out; rw [List.length_append, List.length_singleton]; omega, HB5.out.trans (HB8'.out.mono (by have := HB3.out.size; have := HZ3.out; omega))⟩
      rw [← HEN.out]
      rcases HBOX.out with ⟨g0, g1, g2, g3, _, _⟩ | ⟨g0, g1, g2⟩
      · left
        rcases HWH.out with ⟨_, g4, g5⟩ | ⟨g4, _⟩
        · subst g2 g3 g4 g5 g1; exact ⟨rfl, rfl⟩
        · rw [g0] at g4; cases g4
      · right
        rcases HWH.out with ⟨g4, _⟩ | ⟨_, g4, g5⟩
        · rw [g0] at g4; cases g4
        · exact ⟨x0, y0, x1, y1, g1, g2, by rw [g4, g5]⟩
end Go.Proofs.YtlcjadgaommfmaaDoor
