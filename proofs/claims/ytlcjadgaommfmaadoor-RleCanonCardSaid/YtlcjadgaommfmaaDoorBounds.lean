/- plane.Bounds. -/
import Derived.Test.YtlcjadgaommfmaaDoorCells
import Derived.IntWalk
import Derived.Laws.ResultCell
import Derived.Deep.RegionHeld3
import Derived.Deep.DeepCutAuto
import Derived.Deep.RegionLaw
namespace Go.Proofs.YtlcjadgaommfmaaDoor
open Go.RowKit

/-- The least box around cells. -/
theorem min_as (a b : Int) : min a b = if b < a then b else a := by omega
theorem max_as (a b : Int) : max a b = if a < b then b else a := by omega
def IsBox (l : List (Int × Int)) (x0 y0 x1 y1 : Int) : Prop :=
  ((∃ c ∈ l, c.1 = x0) ∧ (∀ c ∈ l, x0 ≤ c.1)) ∧ ((∃ c ∈ l, c.2 = y0) ∧ (∀ c ∈ l, y0 ≤ c.2)) ∧ ((∃ c ∈ l, c.1 = x1) ∧ (∀ c ∈ l, c.1 ≤ x1)) ∧ ((∃ c ∈ l, c.2 = y1) ∧ (∀ c ∈ l, c.2 ≤ y1))

theorem isBox_congr {l m : List (Int × Int)} {x0 y0 x1 y1 : Int} (h : IsBox l x0 y0 x1 y1) (hm : ∀ c, c ∈ l ↔ c ∈ m) : IsBox m x0 y0 x1 y1 := by
  obtain ⟨⟨⟨a, a1, a2⟩, a3⟩, ⟨⟨b, b1, b2⟩, b3⟩, ⟨⟨c, c1, c2⟩, c3⟩, ⟨d, d1, d2⟩, d3⟩ := h
  exact ⟨⟨⟨a, (hm a).1 a1, a2⟩, fun e he => a3 e ((hm e).2 he)⟩, ⟨⟨b, (hm b).1 b1, b2⟩, fun e he => b3 e ((hm e).2 he)⟩, ⟨⟨c, (hm c).1 c1, c2⟩, fun e he => c3 e ((hm e).2 he)⟩, ⟨d, (hm d).1 d1, d2⟩, fun e he => d3 e ((hm e).2 he)⟩
theorem isBox_unique {l : List (Int × Int)} {x0 y0 x1 y1 a0 b0 a1 b1 : Int} (h : IsBox l x0 y0 x1 y1) (h' : IsBox l a0 b0 a1 b1) : x0 = a0 ∧ y0 = b0 ∧ x1 = a1 ∧ y1 = b1 := by
  obtain ⟨⟨⟨a, p1, rfl⟩, a3⟩, ⟨⟨b, p2, rfl⟩, b3⟩, ⟨⟨c, p3, rfl⟩, c3⟩, ⟨d, p4, rfl⟩, d3⟩ := h
  obtain ⟨⟨⟨a', q1, rfl⟩, a3'⟩, ⟨⟨b', q2, rfl⟩, b3'⟩, ⟨⟨c', q3, rfl⟩, c3'⟩, ⟨d', q4, rfl⟩, d3'⟩ := h'
  exact ⟨Int.le_antisymm (a3 _ q1) (a3' _ p1), Int.le_antisymm (b3 _ q2) (b3' _ p2), Int.le_antisymm (c3' _ p3) (c3 _ q3), Int.le_antisymm (d3' _ p4) (d3 _ q4)⟩
theorem isBox_one (x y : Int) : IsBox [(x, y)] x y x y := by simp [IsBox]
theorem isBox_snoc {l : List (Int × Int)} {x0 y0 x1 y1 cx cy : Int} (h : IsBox l x0 y0 x1 y1) : IsBox (l ++ [(cx, cy)]) (if cx < x0 then cx else x0) (if cy < y0 then cy else y0) (if x1 < cx then cx else x1) (if y1 < cy then cy else y1) := by
  obtain ⟨⟨⟨a, a1, a2⟩, a3⟩, ⟨⟨b, b1, b2⟩, b3⟩, ⟨⟨c, c1, c2⟩, c3⟩, ⟨d, d1, d2⟩, d3⟩ := h
  refine ⟨⟨?_, fun e he => ?_⟩, ⟨?_, fun e he => ?_⟩, ⟨?_, fun e he => ?_⟩, ⟨?_, fun e he => ?_⟩⟩
  · split
    · exact ⟨(cx, cy), by simp, rfl⟩
    · exact ⟨a, by simp [a1], a2⟩
  · simp at he
    rcases he with he | rfl
    · have := a3 e he; split <;> omega
    · dsimp only; split <;> omega
  · split
    · exact ⟨(cx, cy), by simp, rfl⟩
    · exact ⟨b, by simp [b1], b2⟩
  · simp at he
    rcases he with he | rfl
    · have := b3 e he; split <;> omega
    · dsimp only; split <;> omega
  · split
    · exact ⟨(cx, cy), by simp, rfl⟩
    · exact ⟨c, by simp [c1], c2⟩
  · simp at he
    rcases he with he | rfl
    · have := c3 e he; split <;> omega
    · dsimp only; split <;> omega
  · split
    · exact ⟨(cx, cy), by simp, rfl⟩
    · exact ⟨d, by simp [d1], d2⟩
  · simp at he
    rcases he with he | rfl
    · have := d3 e he; split <;> omega
    · dsimp only; split <;> omega
theorem isBox_step {l : List (Int × Int)} {k : Nat} {x0 y0 x1 y1 cx cy m0 n0 m1 n1 : Int} (h : IsBox (l[0]! :: l.take k) x0 y0 x1 y1) (hk : k < l.length) (hc : l[k]! = (cx, cy))
    (e1 : (if cx < x0 then cx else x0) = m0) (e2 : (if cy < y0 then cy else y0) = n0) (e3 : (if x1 < cx then cx else x1) = m1) (e4 : (if y1 < cy then cy else y1) = n1) : IsBox (l[0]! :: l.take (k + 1)) m0 n0 m1 n1 := by
  have := isBox_snoc (cx := cx) (cy := cy) h
  rw [e1, e2, e3, e4] at this
  rw [List.getElem!_eq_getElem?_getD, List.getElem?_eq_getElem hk] at hc
  simp at hc
  rw [List.take_add_one, List.getElem?_eq_getElem hk, hc]
  exact this
theorem isBox_all {l : List (Int × Int)} {n : Nat} {x0 y0 x1 y1 : Int} (h : IsBox (l[0]! :: l.take n) x0 y0 x1 y1) (hl : l.length = n) (hn : 0 < n) : IsBox l x0 y0 x1 y1 := by
  refine isBox_congr h fun c => ?_
  rw [List.take_of_length_le (by omega), List.mem_cons]
  constructor
  · rintro (rfl | h)
    · rw [List.getElem!_eq_getElem?_getD, List.getElem?_eq_getElem (by omega)]; simp
    · exact h
  · exact .inr
def BoundsPost (w : World) (l : List (Int × Int)) (e : Ending) (w' : World) : Prop :=
  ∃ x0 y0 x1 y1, e = .returned (.tuple #[.agg #[.int .i64 x0, .int .i64 y0, .int .i64 x1, .int .i64 y1], .bool true]) ∧ IsBox l x0 y0 x1 y1 ∧ Below w.heap.size w w'

theorem bounds_none (w : World) (A : Option Addr) (cap : Nat) :
    Calls Tryd.prog 12 #[.slice A 0 cap] w fun e w' => e = .returned (.tuple #[.agg #[.int .i64 0, .int .i64 0, .int .i64 0, .int .i64 0], .bool false]) ∧ Below w.heap.size w w' := by
  go_enter Tryd.func12, Tryd.ntmps12
  go_wp2
  (try simp only [Exit.inBlock, Exit.then])
  refine bodyPost_ret (v := .tuple #[.agg #[.int .i64 0, .int .i64 0, .int .i64 0, .int .i64 0], .bool false]) (by rw [results_cell_tmp rfl]; go_simp) rfl ?_
  exact ⟨rfl, (Below.refl _ _).alloc (Nat.le_refl _) _⟩

set_option maxRecDepth 100000 in
set_option maxHeartbeats 3200000 in
theorem bounds_any (w : World) (n : Nat) (v : Value) (l : List (Int × Int)) (h : Rd w w.heap.size 2 v n (flat l)) (hn : 0 < n) :
    Calls Tryd.prog 12 #[v] w (BoundsPost w l) := by
  obtain ⟨hl, hat⟩ := h.pairs
  obtain ⟨b, off, cap, rfl, hc1, hc2, hb1, hcs⟩ := hat hn
  have HCS := Lib.hid hcs
  have HL := Lib.hid hl
  unfold maxLen at hc2
  obtain ⟨c1, c2⟩ := hcs 0 hn
  have hn0 : ((n : Int) == 0) = false := by simp; omega
  generalize hc0 : l[0]! = c at c1 c2
  obtain ⟨x, y⟩ := c
  have HC0 := Lib.hid hc0
  clear hc0
  clear h hat hl hcs
  rw [Nat.zero_mul, Nat.add_zero] at c1 c2
  have := World.new_ne w ⟨b, off, none⟩ c1
  have := World.new_ne w ⟨b, off + 1, none⟩ c2
  go_enter Tryd.func12, Tryd.ntmps12
  go_wp2_with fail
  go_region_held3 (fun w' => w'.cell? ⟨b, off, none⟩ = some (.int .i64 x) ∧ w'.cell? ⟨b, off + 1, none⟩ = some (.int .i64 y)) (go_keep) (fail)
  go_wp2_with fail
  go_loopw [30] (fun iv wx => ∃ (k : Nat) (x0 y0 x1 y1 : Int), k ≤ n ∧ iv = .int .i64 k ∧ Blk wx w.heap.size 38 #[.int .i64 0, .int .i64 0, .int .i64 0, .int .i64 0] ∧ Blk wx (w.heap.size + 1) 38 #[.int .i64 x0, .int .i64 y0, .int .i64 x1, .int .i64 y1] ∧
    IsBox (l[0]! :: l.take k) x0 y0 x1 y1 ∧ Below w.heap.size w wx) (fun iv _ => n - (intOf iv).toNat)
  case atStart =>
    refine ⟨0, x, y, x, y, Nat.zero_le _, rfl, ((Blk.new w _ _).alloc _).drew, ?_, by rw [HC0.out]; exact isBox_one x y, (((Below.refl _ _).alloc (Nat.le_refl _) _).alloc (by simp) _).drew⟩
    have := (Blk.new (w.alloc (.cells #[.int .i64 0, .int .i64 0, .int .i64 0, .int .i64 0] 38)) 38 #[.int .i64 x, .int .i64 y, .int .i64 x, .int .i64 y]).drew
    rwa [World.size_alloc] at this
  case round =>
    obtain ⟨k, x0, y0, x1, y1, hk, rfl, hz, hbk, hbox, hb⟩ := hrel
    have HZ := Lib.hid hz
    have HBK := Lib.hid hbk
    have HBOX := Lib.hid hbox
    have HB := Lib.hid hb
    by_cases hlt : k < n
    · obtain ⟨c3, c4⟩ := HCS.out k hlt
      rw [← hb.cell (p := ⟨b, off + k * 2, none⟩) hb1] at c3
      rw [← hb.cell (p := ⟨b, off + k * 2 + 1, none⟩) hb1] at c4
      have d0 : wr.cell? ⟨w.heap.size + 1, 0, none⟩ = some (.int .i64 x0) := hbk.cellS rfl
      have d1 : wr.cell? ⟨w.heap.size + 1, 1, none⟩ = some (.int .i64 y0) := hbk.cellS rfl
      have d2 : wr.cell? ⟨w.heap.size + 1, 2, none⟩ = some (.int .i64 x1) := hbk.cellS rfl
      have d3 : wr.cell? ⟨w.heap.size + 1, 3, none⟩ = some (.int .i64 y1) := hbk.cellS rfl
      have d4 : wr.frozen? ⟨w.heap.size + 1, 0, none⟩ = false := hbk.frozen _
      have d5 : wr.frozen? ⟨w.heap.size + 1, 1, none⟩ = false := hbk.frozen _
      have d6 : wr.frozen? ⟨w.heap.size + 1, 2, none⟩ = false := hbk.frozen _
      have d7 : wr.frozen? ⟨w.heap.size + 1, 3, none⟩ = false := hbk.frozen _
      have hlt1 : w.heap.size + 1 < wr.heap.size := hbk.lt
      generalize hck : l[k]! = c at c3 c4
      obtain ⟨cx, cy⟩ := c
      have HCK := Lib.hid hck
      clear hck
      clear hz hbk hbox hb c1 c2
      go_upto_region 7 with fail
      generalize hw2 : World.alloc wr _ = w2
      have e0 : w2.cell? ⟨w.heap.size + 1, 0, none⟩ = some (.int .i64 x0) := by subst hw2; exact (HBK.out.alloc _).cellS rfl
      have e1 : w2.cell? ⟨w.heap.size + 1, 1, none⟩ = some (.int .i64 y0) := by subst hw2; exact (HBK.out.alloc _).cellS rfl
      have e2 : w2.cell? ⟨w.heap.size + 1, 2, none⟩ = some (.int .i64 x1) := by subst hw2; exact (HBK.out.alloc _).cellS rfl
      have e3 : w2.cell? ⟨w.heap.size + 1, 3, none⟩ = some (.int .i64 y1) := by subst hw2; exact (HBK.out.alloc _).cellS rfl
      have e4 : w2.frozen? ⟨w.heap.size + 1, 0, none⟩ = false := by subst hw2; exact (HBK.out.alloc _).frozen _
      have e5 : w2.frozen? ⟨w.heap.size + 1, 1, none⟩ = false := by subst hw2; exact (HBK.out.alloc _).frozen _
      have e6 : w2.frozen? ⟨w.heap.size + 1, 2, none⟩ = false := by subst hw2; exact (HBK.out.alloc _).frozen _
      have e7 : w2.frozen? ⟨w.heap.size + 1, 3, none⟩ = false := by subst hw2; exact (HBK.out.alloc _).frozen _
      have f0 : w2.cell? ⟨wr.heap.size, 0, none⟩ = some (.int .i64 cx) := by subst hw2; exact (Blk.new wr _ _).cellS rfl
      have f1 : w2.cell? ⟨wr.heap.size, 1, none⟩ = some (.int .i64 cy) := by subst hw2; exact (Blk.new wr _ _).cellS rfl
      have hST : w.heap.size + 1 ≠ wr.heap.size := by omega
      have hTS : wr.heap.size ≠ w.heap.size + 1 := by omega
      have HBK2 : Hid (Blk w2 (w.heap.size + 1) 38 #[.int .i64 x0, .int .i64 y0, .int .i64 x1, .int .i64 y1]) := by subst hw2; exact HBK.out.alloc _
      have HT2 : Hid (Blk w2 wr.heap.size 50 #[.int .i64 cx, .int .i64 cy]) := by subst hw2; exact Blk.new wr _ _
      have HZ2 : Hid (Blk w2 w.heap.size 38 #[.int .i64 0, .int .i64 0, .int .i64 0, .int .i64 0]) := by subst hw2; exact HZ.out.alloc _
      have HB2 : Hid (Below w.heap.size w w2) := by subst hw2; exact HB.out.alloc HB.out.size _
      have hSw : w.heap.size ≤ w.heap.size + 1 := by omega
      have hwS : w.heap.size ≠ w.heap.size + 1 := by omega
      clear d0 d1 d2 d3 d4 d5 d6 d7 c3 c4 hw2
      have HSS : Hid (∃ S, S = w.heap.size + 1) := ⟨_, rfl⟩
      generalize hSS : w.heap.size + 1 = S at *
      have HSE := Lib.hid hSS
      clear hSS
      generalize wr.heap.size = T at *
      go_cut [] (fun wx => ∃ mx0 mx1, (if cx < x0 then cx else x0) = mx0 ∧ (if x1 < cx then cx else x1) = mx1 ∧ Blk wx S 38 #[.int .i64 mx0, .int .i64 y0, .int .i64 mx1, .int .i64 y1] ∧ Blk wx T 50 #[.int .i64 cx, .int .i64 cy] ∧
        Blk wx w.heap.size 38 #[.int .i64 0, .int .i64 0, .int .i64 0, .int .i64 0] ∧ Below w.heap.size w wx)
      case first =>
        as_aux_lemma =>
        go_region
        (try simp only [min_as, max_as])
        generalize hmx0 : (if cx < x0 then cx else x0) = mx0
        generalize hmx1 : (if x1 < cx then cx else x1) = mx1
        go_wp2_with fail
        go_meet
        exact ⟨mx0, mx1, hmx0, hmx1, ((HBK2.out.set 0 _).set 2 _).drew, ((HT2.out.far hTS _).far hTS _).drew, ((HZ2.out.far hwS _).far hwS _).drew, (Below.setCell (Below.setCell HB2.out (p := ⟨S, 0, none⟩) hSw (.int .i64 mx0)) (p := ⟨S, 2, none⟩) hSw (.int .i64 mx1)).drew⟩
      case rest =>
       obtain ⟨mx0, mx1, hmx0, hmx1, hbk3, ht3, hz3, hb3⟩ := hcut
       have HMX := Lib.hid (And.intro hmx0 hmx1)
       have HBK3 := Lib.hid hbk3
       have HT3 := Lib.hid ht3
       have HZ3 := Lib.hid hz3
       have HB3 := Lib.hid hb3
       clear hmx0 hmx1 hbk3 ht3 hz3 hb3
       generalize wc = w3 at *
       have g0 : w3.cell? ⟨T, 1, none⟩ = some (.int .i64 cy) := HT3.out.cellS rfl
       have g1 : w3.cell? ⟨S, 1, none⟩ = some (.int .i64 y0) := HBK3.out.cellS rfl
       have g3 : w3.cell? ⟨S, 3, none⟩ = some (.int .i64 y1) := HBK3.out.cellS rfl
       have g5 : w3.frozen? ⟨S, 1, none⟩ = false := HBK3.out.frozen _
       have g7 : w3.frozen? ⟨S, 3, none⟩ = false := HBK3.out.frozen _
       clear e0 e1 e2 e3 e4 e5 e6 e7 f0 f1
       go_upto_region 8 with fail
       go_region
       (try simp only [min_as, max_as])
       generalize hmy0 : (if cy < y0 then cy else y0) = my0
       generalize hmy1 : (if y1 < cy then cy else y1) = my1
       have HMY := Lib.hid (And.intro hmy0 hmy1)
       clear hmy0 hmy1
       generalize hw4 : World.drew _ = w4
       have HBK4 : Hid (Blk w4 S 38 #[.int .i64 mx0, .int .i64 my0, .int .i64 mx1, .int .i64 my1]) := by subst hw4; exact ((HBK3.out.set 1 _).set 3 _).drew
       have HZ4 : Hid (Blk w4 w.heap.size 38 #[.int .i64 0, .int .i64 0, .int .i64 0, .int .i64 0]) := by subst hw4; exact ((HZ3.out.far hwS _).far hwS _).drew
       have HB4 : Hid (Below w.heap.size w w4) := by
         subst hw4
         have := Below.setCell (Below.setCell HB3.out (p := ⟨S, 1, none⟩) hSw (.int .i64 my0)) (p := ⟨S, 3, none⟩) hSw (.int .i64 my1)
         exact this.drew
       clear hw4 g0 g1 g3 g5 g7 HSS
       have hSS := HSE.out
       clear HSE
       subst hSS
       go_wp2
       go_roundw
       case rel => exact ⟨k + 1, mx0, my0, mx1, my1, by omega, by go_num, HZ4.out, HBK4.out, isBox_step HBOX.out (by rw [HL.out]; exact hlt) HCK.out HMX.out.1 HMY.out.1 HMX.out.2 HMY.out.2, HB4.out⟩
       case measure => simp [intOf]; omega
    · obtain rfl : k = n := by omega
      have z0 : wr.cell? ⟨w.heap.size, 0, none⟩ = some (.int .i64 0) := hz.cellS rfl
      have z1 : wr.cell? ⟨w.heap.size, 1, none⟩ = some (.int .i64 0) := hz.cellS rfl
      have z2 : wr.cell? ⟨w.heap.size, 2, none⟩ = some (.int .i64 0) := hz.cellS rfl
      have z3 : wr.cell? ⟨w.heap.size, 3, none⟩ = some (.int .i64 0) := hz.cellS rfl
      have z4 : wr.frozen? ⟨w.heap.size, 0, none⟩ = false := hz.frozen _
      have z5 : wr.frozen? ⟨w.heap.size, 1, none⟩ = false := hz.frozen _
      have z6 : wr.frozen? ⟨w.heap.size, 2, none⟩ = false := hz.frozen _
      have z7 : wr.frozen? ⟨w.heap.size, 3, none⟩ = false := hz.frozen _
      have d0 : wr.cell? ⟨w.heap.size + 1, 0, none⟩ = some (.int .i64 x0) := hbk.cellS rfl
      have d1 : wr.cell? ⟨w.heap.size + 1, 1, none⟩ = some (.int .i64 y0) := hbk.cellS rfl
      have d2 : wr.cell? ⟨w.heap.size + 1, 2, none⟩ = some (.int .i64 x1) := hbk.cellS rfl
      have d3 : wr.cell? ⟨w.heap.size + 1, 3, none⟩ = some (.int .i64 y1) := hbk.cellS rfl
      clear hz hbk hbox hb
      go_wp2
      have HZ5 := Lib.hid ((((HZ.out.set 0 (.int .i64 x0)).set 1 (.int .i64 y0)).set 2 (.int .i64 x1)).set 3 (.int .i64 y1))
      generalize hw5 : World.setCell _ _ _ = w5
      have q0 : w5.cell? ⟨w.heap.size, 0, none⟩ = some (.int .i64 x0) := by subst hw5; exact HZ5.out.cellS rfl
      have q1 : w5.cell? ⟨w.heap.size, 1, none⟩ = some (.int .i64 y0) := by subst hw5; exact HZ5.out.cellS rfl
      have q2 : w5.cell? ⟨w.heap.size, 2, none⟩ = some (.int .i64 x1) := by subst hw5; exact HZ5.out.cellS rfl
      have q3 : w5.cell? ⟨w.heap.size, 3, none⟩ = some (.int .i64 y1) := by subst hw5; exact HZ5.out.cellS rfl
      have HB5 : Hid (Below w.heap.size w w5) := by
        subst hw5
        exact Below.setCell (Below.setCell (Below.setCell (Below.setCell HB.out (p := ⟨w.heap.size, 0, none⟩) (Nat.le_refl _) _) (p := ⟨w.heap.size, 1, none⟩) (Nat.le_refl _) _) (p := ⟨w.heap.size, 2, none⟩) (Nat.le_refl _) _) (p := ⟨w.heap.size, 3, none⟩) (Nat.le_refl _) _
      clear hw5 HZ5 z0 z1 z2 z3 z4 z5 z6 z7 d0 d1 d2 d3 c1 c2
      refine bodyPost_ret (v := .tuple #[.agg #[.int .i64 x0, .int .i64 y0, .int .i64 x1, .int .i64 y1], .bool true]) (by rw [results_cell_tmp rfl]; go_simp) rfl ?_
      exact ⟨x0, y0, x1, y1, rfl, isBox_all HBOX.out HL.out hn, HB5.out⟩
end Go.Proofs.YtlcjadgaommfmaaDoor
