/- PlaneBack: the walk. -/
import Derived.Test.YtfoipadgicjcaaaSome
import Derived.Test.YtfoipadgicjcaaaShift
import Derived.Test.YtfoipadgicjcaaaBounds
namespace Go.Proofs.Ytfoipadgicjcaaa
open Go.RowKit

theorem shC_back (a b : Int) (c : Int × Int) : shC (-a) (-b) (shC a b c) = c := by unfold shC; apply Prod.ext <;> dsimp only <;> omega
theorem tid_back {l t1 t2 t3 : List (Int × Int)} {a b : Int} (h1 : Tid (l.map (shC a b)) t1) (h2 : Tid (t1.map (shC (-a) (-b))) t2) (h3 : Tid l t3) : t2 = t3 := by
  refine Tid.unique (l := l) ⟨h2.1, fun c => (h2.2 c).trans ?_⟩ h3
  simp only [List.mem_map]
  constructor
  · rintro ⟨d, hd, rfl⟩
    obtain ⟨e, he, rfl⟩ := List.mem_map.1 ((h1.2 d).1 hd)
    rw [shC_back]; exact he
  · intro hc
    exact ⟨shC a b c, (h1.2 _).2 (List.mem_map.2 ⟨c, hc, rfl⟩), shC_back a b c⟩
theorem isBox_map {l : List (Int × Int)} {x0 y0 x1 y1 a b : Int} (h : IsBox l x0 y0 x1 y1) : IsBox (l.map (shC a b)) (x0 + a) (y0 + b) (x1 + a) (y1 + b) := by
  obtain ⟨⟨⟨p, p1, p2⟩, p3⟩, ⟨⟨q, q1, q2⟩, q3⟩, ⟨⟨r, r1, r2⟩, r3⟩, ⟨s, s1, s2⟩, s3⟩ := h
  have key : ∀ {P : Int × Int → Prop}, (∀ c ∈ l, P (shC a b c)) → ∀ c ∈ l.map (shC a b), P c := fun h c hc => by
    obtain ⟨e, he, rfl⟩ := List.mem_map.1 hc; exact h e he
  refine ⟨⟨⟨_, List.mem_map.2 ⟨p, p1, rfl⟩, by simp [shC, p2]⟩, key (P := fun c => _ ≤ c.1) fun c hc => ?_⟩, ⟨⟨_, List.mem_map.2 ⟨q, q1, rfl⟩, by simp [shC, q2]⟩, key (P := fun c => _ ≤ c.2) fun c hc => ?_⟩,
    ⟨⟨_, List.mem_map.2 ⟨r, r1, rfl⟩, by simp [shC, r2]⟩, key (P := fun c => c.1 ≤ _) fun c hc => ?_⟩, ⟨⟨_, List.mem_map.2 ⟨s, s1, rfl⟩, by simp [shC, s2]⟩, key (P := fun c => c.2 ≤ _) fun c hc => ?_⟩⟩
  · have := p3 c hc; simp [shC]; omega
  · have := q3 c hc; simp [shC]; omega
  · have := r3 c hc; simp [shC]; omega
  · have := s3 c hc; simp [shC]; omega

theorem run_eqBox (x0 y0 x1 y1 : Int) (w : World) : (binOp .eql 68 (.agg #[.int .i64 x0, .int .i64 y0, .int .i64 x1, .int .i64 y1]) (.agg #[.int .i64 x0, .int .i64 y0, .int .i64 x1, .int .i64 y1])).run Try.prog w = .ok (.bool true) w := by
  have hS : Try.prog.underlying 68 = some (.struct (Try.prog.fieldsOf 68)) := by kernel_rfl
  have hp : Try.prog.stoodInHeld 68 = false := by kernel_rfl
  have u3 := Try.underlying3
  have z3 := Try.sizeOf3
  have a3 := Try.isAgg3
  rw [run_eql_struct, show (10000 : Nat) = 9999 + 1 from rfl, run_equalIn_agg w 9999 _ _ _ hS hp]
  simp only [Program.fieldsOf, Try.underlying68]
  go_simp

theorem below_drawn {B : Nat} {a w : World} (h : Below B a w) (n : Nat) : Below B a (w.drewN n) := ⟨h.os, h.tape, h.output, h.size, h.block⟩
theorem near_ok {L : List (Int × Int)} (h : ∀ c ∈ L, (-549755813888 ≤ c.1 ∧ c.1 < 549755813888) ∧ (-549755813888 ≤ c.2 ∧ c.2 < 549755813888)) : ∀ c ∈ L, okC c := fun c hc => by
  have := h c hc; unfold okC okZ; omega
theorem near_ok2 {L : List (Int × Int)} {a b : Int} (h : ∀ c ∈ L, (-549755813888 ≤ c.1 ∧ c.1 < 549755813888) ∧ (-549755813888 ≤ c.2 ∧ c.2 < 549755813888)) (ha : 0 ≤ a ∧ a < 549755813888) (hb : 0 ≤ b ∧ b < 549755813888) : ∀ c ∈ L, okC (shC a b c) := fun c hc => by
  have := h c hc; unfold okC okZ shC; dsimp only; omega

set_option maxRecDepth 100000 in
set_option maxHeartbeats 3200000 in
theorem back_any (w : World) (n : Nat) (v : Value) (l : List (Int × Int)) (dx dy : Int) (h : Rd w w.heap.size 2 v n (flat l)) (hin : ∀ c ∈ l, inC c)
    (hx : -9223372036854775808 ≤ dx ∧ dx ≤ 9223372036854775807) (hy : -9223372036854775808 ≤ dy ∧ dy ≤ 9223372036854775807) :
    Calls Try.prog 7 #[v, .int .i64 dx, .int .i64 dy] w fun e w' => e = .returned (.bool true) ∧ Below w.heap.size w w' := by
  have H := Lib.hid h
  have HIN := Lib.hid hin
  have HX := Lib.hid hx
  have HY := Lib.hid hy
  have HLEN : Hid (l.length = n) := (h.pairs).1
  clear h hin hx hy
  go_enter Try.func7, Try.ntmps7
  go_wp2_with fail
  (with_reducible refine (some_lit _ n 1000 1000 rfl _ l 549755813888 H.out HIN.out (by omega) (by omega) (by omega)).mono ?_)
  rintro e w1 ⟨v1, rfl, hs1, hf1, hb1⟩
  have HL : Hid (∀ c ∈ someL l 1000 549755813888, (-549755813888 ≤ c.1 ∧ c.1 < 549755813888) ∧ (-549755813888 ≤ c.2 ∧ c.2 < 549755813888)) := fun c hc => someL_near (by omega) hc
  have hm : min 1000 n ≤ 4096 := by omega
  have HLL : Hid ((someL l 1000 549755813888).length = min 1000 n) := by show _ = _; rw [someL_length, HLEN.out]
  generalize min 1000 n = m at hs1 hm HLL
  generalize someL l 1000 549755813888 = L at hs1 HL HLL
  have HS1 := Lib.hid hs1
  have HB1 := Lib.hid hb1
  clear hs1 hf1 hb1
  go_wp2_with fail
  (with_reducible refine (spot_any dx 549755813888 (by omega) (by omega) HX.out.1 HX.out.2 _).mono ?_)
  rintro e wq ⟨rfl, rfl⟩
  go_wp2_with fail
  (with_reducible refine (spot_any dy 549755813888 (by omega) (by omega) HY.out.1 HY.out.2 _).mono ?_)
  rintro e wq ⟨rfl, rfl⟩
  have ha1 := Int.emod_nonneg dx (show (549755813888 : Int) ≠ 0 by omega)
  have ha2 := Int.emod_lt_of_pos dx (show (0 : Int) < 549755813888 by omega)
  have hb1 := Int.emod_nonneg dy (show (549755813888 : Int) ≠ 0 by omega)
  have hb2 := Int.emod_lt_of_pos dy (show (0 : Int) < 549755813888 by omega)
  generalize dx % 549755813888 = a at ha1 ha2
  generalize dy % 549755813888 = b at hb1 hb2
  go_wp2_with fail
  (with_reducible refine (shift_ok _ m _ L a b HS1.out.rd hm (near_ok HL.out) (near_ok2 HL.out ⟨ha1, ha2⟩ ⟨hb1, hb2⟩) (by omega) (by omega) (by omega) (by omega)).mono ?_)
  rintro e w2 ⟨A2, m2, t2, rfl, ht2, hs2, hf2, hb2'⟩
  have HT2 := Lib.hid ht2
  have HS2 := Lib.hid hs2
  have HB2 : Hid (Below w.heap.size w w2) := HB1.out.trans (hb2'.mono HB1.out.size)
  have HS1' : Hid (Rd w2 w1.heap.size 2 v1 m (flat L)) := HS1.out.rd.below hb2'
  have HZ12 : Hid (w1.heap.size ≤ w2.heap.size) := hb2'.size
  have hm2 : m2 ≤ 4096 := by
    have e1 := hs2.1
    have e2 := tid_length ht2
    have e3 := HLL.out
    rw [flat_length] at e1
    rw [List.length_map] at e2
    omega
  clear ht2 hs2 hf2 hb2'
  go_wp2_with fail
  (with_reducible refine (shift_ok _ m2 _ t2 (-a) (-b) HS2.out.rd hm2 (fun c hc => by
      obtain ⟨d, hd, rfl⟩ := List.mem_map.1 ((tid_mem HT2.out c).1 hc); exact near_ok2 HL.out ⟨ha1, ha2⟩ ⟨hb1, hb2⟩ d hd) (fun c hc => by
      obtain ⟨d, hd, rfl⟩ := List.mem_map.1 ((tid_mem HT2.out c).1 hc); rw [shC_back]; exact near_ok HL.out d hd) (by omega) (by omega) (by omega) (by omega)).mono ?_)
  rintro e w3 ⟨A3, m3, t3, rfl, ht3, hs3, hf3, hb3⟩
  have HT3 := Lib.hid ht3
  have HS3 := Lib.hid hs3
  have HB3 : Hid (Below w.heap.size w w3) := HB2.out.trans (hb3.mono HB2.out.size)
  have HS13 : Hid (Rd w3 w1.heap.size 2 v1 m (flat L)) := HS1'.out.below (hb3.mono HZ12.out)
  have HS23 : Hid (Rd w3 w2.heap.size 2 (.slice A2 m2 m2) m2 (flat t2)) := HS2.out.rd.below hb3
  have HZ23 : Hid (w2.heap.size ≤ w3.heap.size) := hb3.size
  clear ht3 hs3 hf3 hb3
  go_wp2_with fail
  (with_reducible refine (tidy_ok _ w1.heap.size m _ L HS13.out (Nat.le_trans HZ12.out HZ23.out) hm (near_ok HL.out)).mono ?_)
  rintro e w4 ⟨A4, m4, t4, rfl, ht4, hs4, hf4, hb4⟩
  have htt : t3 = t4 := tid_back HT2.out HT3.out ht4
  subst htt
  obtain rfl : m3 = m4 := by have e1 := hs4.1; have e2 := HS3.out.1; rw [flat_length] at e1 e2; omega
  have HS4 := Lib.hid hs4.rd
  have HS34 : Hid (Rd w4 w3.heap.size 2 (.slice A3 m3 m3) m3 (flat t3)) := HS3.out.rd.below hb4
  have HS14 : Hid (Rd w4 w4.heap.size 2 v1 m (flat L)) := (HS13.out.below (hb4.mono (Nat.le_trans HZ12.out HZ23.out))).more (Nat.le_trans (Nat.le_trans HZ12.out HZ23.out) hb4.size)
  have HS24 : Hid (Rd w4 w2.heap.size 2 (.slice A2 m2 m2) m2 (flat t2)) := HS23.out.below (hb4.mono HZ23.out)
  have HZ34 : Hid (w3.heap.size ≤ w4.heap.size) := hb4.size
  have HB4 : Hid (Below w.heap.size w w4) := HB3.out.trans (hb4.mono HB3.out.size)
  clear ht4 hs4 hf4 hb4 HS13 HS23 HS1' HS3 HS2 HS1
  obtain ⟨Av1, cv1, rfl, _, _⟩ := HS14.out.form
  rcases Nat.eq_zero_or_pos m with hm0 | hm0
  · subst hm0
    have hL0 : L = [] := List.eq_nil_of_length_eq_zero HLL.out
    subst hL0
    have ht20 : t2 = [] := HT2.out.unique ⟨by simp, by simp⟩
    subst ht20
    obtain rfl : m2 = 0 := by have := HS24.out.1; rw [flat_length] at this; simp at this; omega
    as_aux_lemma =>
    go_wp2_with fail
    (with_reducible refine (bounds_none _ _ _).mono ?_)
    rintro e w5 ⟨rfl, hb5⟩
    have HB45 := Lib.hid hb5
    clear hb5
    go_wp2_with fail
    (with_reducible refine (bounds_none _ _ _).mono ?_)
    rintro e w6 ⟨rfl, hb6⟩
    have hb6z := hb6.size
    rw [World.size_alloc] at hb6z
    have HB46 : Hid (Below w4.heap.size w4 w6) := (HB45.out.alloc HB45.out.size _).trans (hb6.mono (by rw [World.size_alloc]; have := HB45.out.size; omega))
    clear hb6
    go_wp2_with fail
    generalize hw7 : World.alloc w6 _ = w7
    have HB47 : Hid (Below w4.heap.size w4 w7) := by subst hw7; exact HB46.out.alloc HB46.out.size _
    clear hw7 hb6z
    (with_reducible refine (alive_true _).mono ?_)
    rintro e w8 ⟨rfl, hb8⟩
    have HB48 : Hid (Below w4.heap.size w4 w8) := HB47.out.trans (hb8.mono HB47.out.size)
    clear hb8
    go_wp2_with fail
    (with_reducible refine (same_true _ _ _ m3 _ _ t3 ((HS34.out.more HZ34.out).below HB48.out) (HS4.out.below HB48.out)).mono ?_)
    rintro e w9 ⟨rfl, d, rfl⟩
    go_wp2
    go_ret
    exact ⟨rfl, below_drawn (HB4.out.trans (HB48.out.mono HB4.out.size)) _⟩
  · as_aux_lemma =>
    go_wp2_with fail
    (with_reducible refine (bounds_any _ m _ L HS14.out hm0).mono ?_)
    rintro e w5 ⟨x0, y0, x1, y1, rfl, hbox5, hb5⟩
    have HBOX := Lib.hid hbox5
    have HS24' : Hid (Rd (w5.alloc (.cells #[.int .i64 x0, .int .i64 y0, .int .i64 x1, .int .i64 y1] 68)) (w5.alloc (.cells #[.int .i64 x0, .int .i64 y0, .int .i64 x1, .int .i64 y1] 68)).heap.size 2 (.slice A2 m2 m2) m2 (flat t2)) := by
      refine ((HS24.out.more (Nat.le_trans HZ23.out HZ34.out)).below ((hb5.alloc hb5.size _))).more ?_
      rw [World.size_alloc]; have := hb5.size; omega
    have HB45 := Lib.hid hb5
    have hm20 : 0 < m2 := by
      have e1 := HS24.out.1
      rw [flat_length] at e1
      have e2 := HLL.out
      rcases Nat.eq_zero_or_pos m2 with h0 | h0
      · exfalso
        have : t2 = [] := List.eq_nil_of_length_eq_zero (by omega)
        cases hL : L with
        | nil => rw [hL] at e2; simp at e2; omega
        | cons c r =>
          have := (tid_mem HT2.out (shC a b c)).2 (List.mem_map.2 ⟨c, by rw [hL]; simp, rfl⟩)
          simp_all
      · exact h0
    clear hbox5 hb5
    go_wp2_with fail
    (with_reducible refine (bounds_any _ m2 _ t2 HS24'.out hm20).mono ?_)
    rintro e w6 ⟨p0, q0, p1, q1, rfl, hbox6, hb6⟩
    obtain ⟨rfl, rfl, rfl, rfl⟩ := isBox_unique hbox6 (isBox_congr (isBox_map HBOX.out) fun c => (tid_mem HT2.out c).symm)
    have hxy : (-549755813888 ≤ x0 ∧ x0 < 549755813888) ∧ (-549755813888 ≤ y0 ∧ y0 < 549755813888) ∧ (-549755813888 ≤ x1 ∧ x1 < 549755813888) ∧ (-549755813888 ≤ y1 ∧ y1 < 549755813888) := by
      obtain ⟨⟨⟨p, p1, rfl⟩, p3⟩, ⟨⟨q, q1, rfl⟩, q3⟩, ⟨⟨r, r1, rfl⟩, r3⟩, ⟨s, s1, rfl⟩, s3⟩ := HBOX.out
      exact ⟨(HL.out p p1).1, (HL.out q q1).2, (HL.out r r1).1, (HL.out s s1).2⟩
    obtain ⟨⟨g1, g2⟩, ⟨g3, g4⟩, ⟨g5, g6⟩, g7, g8⟩ := hxy
    have hb6z := hb6.size
    rw [World.size_alloc] at hb6z
    have hlt : w5.heap.size < w6.heap.size := by omega
    have hbk : Blk w6 w5.heap.size 68 #[.int .i64 x0, .int .i64 y0, .int .i64 x1, .int .i64 y1] := (Blk.new w5 _ _).mod (Mod.of_below_all hb6) id
    have c0 : w6.cell? ⟨w5.heap.size, 0, none⟩ = some (.int .i64 x0) := hbk.cellS rfl
    have c1 : w6.cell? ⟨w5.heap.size, 1, none⟩ = some (.int .i64 y0) := hbk.cellS rfl
    have c2 : w6.cell? ⟨w5.heap.size, 2, none⟩ = some (.int .i64 x1) := hbk.cellS rfl
    have c3 : w6.cell? ⟨w5.heap.size, 3, none⟩ = some (.int .i64 y1) := hbk.cellS rfl
    have hq : ∀ w, _ := fun w => run_eqBox (x0 + a) (y0 + b) (x1 + a) (y1 + b) w
    have HB56 : Hid (Below w5.heap.size w5 w6) := ((Below.refl _ _).alloc (Nat.le_refl _) _).trans (hb6.mono (by rw [World.size_alloc]; omega))
    clear hbk hbox6 hb6
    go_wp2_with fail
    generalize hw7 : World.alloc w6 _ = w7
    have HB47 : Hid (Below w4.heap.size w4 w7) := by subst hw7; exact (HB45.out.trans (HB56.out.mono HB45.out.size)).alloc (Nat.le_trans HB45.out.size HB56.out.size) _
    clear hw7 c0 c1 c2 c3 hq
    (with_reducible refine (alive_true _).mono ?_)
    rintro e w8 ⟨rfl, hb8⟩
    have HB48 : Hid (Below w4.heap.size w4 w8) := HB47.out.trans (hb8.mono HB47.out.size)
    clear hb8
    go_wp2_with fail
    (with_reducible refine (same_true _ _ _ m3 _ _ t3 ((HS34.out.more HZ34.out).below HB48.out) (HS4.out.below HB48.out)).mono ?_)
    rintro e w9 ⟨rfl, d, rfl⟩
    go_wp2
    go_ret
    exact ⟨rfl, below_drawn (HB4.out.trans (HB48.out.mono HB4.out.size)) _⟩
end Go.Proofs.Ytfoipadgicjcaaa
