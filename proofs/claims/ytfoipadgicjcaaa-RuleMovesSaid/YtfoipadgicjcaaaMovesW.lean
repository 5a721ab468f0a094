/- RuleMoves: the walk. -/
import Derived.Test.YtfoipadgicjcaaaRuleLaw
import Derived.Test.YtfoipadgicjcaaaShift
namespace Go.Proofs.Ytfoipadgicjcaaa
open Go.RowKit

theorem near20m {L : List (Int × Int)} (h : ∀ c ∈ L, (-1048576 ≤ c.1 ∧ c.1 < 1048576) ∧ (-1048576 ≤ c.2 ∧ c.2 < 1048576)) : ∀ c ∈ L, (-1048576 ≤ c.1 ∧ c.1 ≤ 1048576) ∧ (-1048576 ≤ c.2 ∧ c.2 ≤ 1048576) := fun c hc => by
  have := h c hc; omega
theorem shC_bd {a b : Int} (ha : 0 ≤ a ∧ a < 1048576) (hb : 0 ≤ b ∧ b < 1048576) {c : Int × Int} {n : Int} (h : (-n ≤ c.1 ∧ c.1 ≤ n) ∧ (-n ≤ c.2 ∧ c.2 ≤ n)) : (-(n + 1048576) ≤ (shC a b c).1 ∧ (shC a b c).1 ≤ n + 1048576) ∧ (-(n + 1048576) ≤ (shC a b c).2 ∧ (shC a b c).2 ≤ n + 1048576) := by
  unfold shC; dsimp only; omega
theorem tid_tid {l t u : List (Int × Int)} (h : Tid l t) (h2 : Tid t u) : Tid l u := ⟨h2.1, fun c => (h2.2 c).trans (h.2 c)⟩

set_option maxRecDepth 100000 in
set_option maxHeartbeats 3200000 in
theorem moves_any (w : World) (rb rl : Int) (hrb : -9223372036854775808 ≤ rb ∧ rb ≤ 9223372036854775807) (hrl : -9223372036854775808 ≤ rl ∧ rl ≤ 9223372036854775807) (n : Nat) (v : Value) (l : List (Int × Int)) (dx dy : Int)
    (h : Rd w w.heap.size 2 v n (flat l)) (hin : ∀ c ∈ l, inC c) (hx : -9223372036854775808 ≤ dx ∧ dx ≤ 9223372036854775807) (hy : -9223372036854775808 ≤ dy ∧ dy ≤ 9223372036854775807) :
    Calls Try.prog 11 #[.agg #[.int .i64 rb, .int .i64 rl], v, .int .i64 dx, .int .i64 dy] w fun e w' => e = .returned (.bool true) ∧ Below w.heap.size w w' := by
  have H := Lib.hid h
  have HIN := Lib.hid hin
  have HX := Lib.hid hx
  have HY := Lib.hid hy
  have HLEN : Hid (l.length = n) := (h.pairs).1
  clear h hin hx hy
  go_enter Try.func11, Try.ntmps11
  go_wp2_with fail
  (with_reducible refine (right_any _ rb rl hrb hrl).mono ?_)
  rintro e w1 ⟨rfl, hb1⟩
  have hz1 := hb1.size
  rw [World.size_alloc] at hb1 hz1
  have HB1 : Hid (Below w.heap.size w w1) := ((Below.refl _ _).alloc (Nat.le_refl _) _).trans (hb1.mono (by omega))
  have HR1 : Hid (Blk w1 w.heap.size 73 #[.int .i64 rb, .int .i64 rl]) := (hb1.block _ (by omega)).trans (Blk.new w _ _)
  have HZ1 := Lib.hid hz1
  have HG : Hid (goodR (rightB rb) (rightL rl)) := right_good rb rl
  generalize rightB rb = p at HG ⊢
  generalize rightL rl = q at HG ⊢
  clear hb1 hz1 hrb hrl
  go_wp2_with fail
  (with_reducible refine (some_lit _ n 300 300 rfl _ l 1048576 ((H.out.below HB1.out).more HB1.out.size) HIN.out (by omega) (by omega) (by omega)).mono ?_)
  rintro e w2 ⟨v2, rfl, hs2, hf2, hb2⟩
  have HL : Hid (∀ c ∈ someL l 300 1048576, (-1048576 ≤ c.1 ∧ c.1 ≤ 1048576) ∧ (-1048576 ≤ c.2 ∧ c.2 ≤ 1048576)) := near20m fun c hc => someL_near (by omega) hc
  have hm : min 300 n ≤ 300 := by omega
  have HLL : Hid ((someL l 300 1048576).length = min 300 n) := by show _ = _; rw [someL_length, HLEN.out]
  generalize min 300 n = m at hs2 hm HLL
  generalize someL l 300 1048576 = L at hs2 HL HLL
  have HS2 := Lib.hid hs2
  have HF2 := Lib.hid hf2
  have HB2 : Hid (Below w.heap.size w w2) := HB1.out.trans (hb2.mono HB1.out.size)
  have hr2 : Blk w2 w.heap.size 73 #[.int .i64 rb, .int .i64 rl] := (hb2.block _ (by have := HZ1.out; omega)).trans HR1.out
  have HR2 := Lib.hid hr2
  have c0 : w2.cell? ⟨w.heap.size, 0, none⟩ = some (.int .i64 rb) := hr2.cellS rfl
  have c1 : w2.cell? ⟨w.heap.size, 1, none⟩ = some (.int .i64 rl) := hr2.cellS rfl
  have f0 := hr2.frozen 0
  have f1 := hr2.frozen 1
  clear hs2 hf2 hb2 hr2
  go_wp2_with fail
  clear c0 c1 f0 f1
  generalize hw3 : World.setCell (World.setCell w2 _ _) _ _ = w3
  have HR3 : Hid (Blk w3 w.heap.size 73 #[.int .i64 p, .int .i64 q]) := by subst hw3; exact (HR2.out.set 0 _).set 1 _
  have hne2 : sblk v2 ≠ some w.heap.size := fun e => by have := HF2.out _ e; have := HZ1.out; omega
  have HS3 : Hid (Sl w3 62 2 v2 m (flat L)) := by subst hw3; exact (HS2.out.far hne2 _).far hne2 _
  have HB3 : Hid (Below w.heap.size w w3) := by subst hw3; exact (HB2.out.setCell (Nat.le_refl _) _).setCell (Nat.le_refl _) _
  clear hw3 hne2 HR2 HS2 HB2 HB1 HR1
  (with_reducible refine (spot_any dx 1048576 (by omega) (by omega) HX.out.1 HX.out.2 _).mono ?_)
  rintro e wq ⟨rfl, rfl⟩
  go_wp2_with fail
  (with_reducible refine (spot_any dy 1048576 (by omega) (by omega) HY.out.1 HY.out.2 _).mono ?_)
  rintro e wq ⟨rfl, rfl⟩
  have HA : Hid (0 ≤ dx % 1048576 ∧ dx % 1048576 < 1048576) := ⟨Int.emod_nonneg _ (by omega), Int.emod_lt_of_pos _ (by omega)⟩
  have HBb : Hid (0 ≤ dy % 1048576 ∧ dy % 1048576 < 1048576) := ⟨Int.emod_nonneg _ (by omega), Int.emod_lt_of_pos _ (by omega)⟩
  generalize dx % 1048576 = a at HA ⊢
  generalize dy % 1048576 = b at HBb ⊢
  have c0 : w3.cell? ⟨w.heap.size, 0, none⟩ = some (.int .i64 p) := HR3.out.cellS rfl
  have c1 : w3.cell? ⟨w.heap.size, 1, none⟩ = some (.int .i64 q) := HR3.out.cellS rfl
  go_wp2_with fail
  clear c0 c1
  (with_reducible refine (next_ok _ p q HG.out m v2 L HS3.out.rd (by omega) (fun c hc => by have := HL.out c hc; unfold tight; omega)).mono ?_)
  rintro e w4 ⟨A4, m4, t4, rfl, ⟨u4, L4, hu4, hL4, hmem4⟩, hm4, hlen4, hs4, hf4, hb4⟩
  have HU4 := Lib.hid hu4
  have HL4 := Lib.hid hL4
  have HM4 := Lib.hid hmem4
  have HN4 := Lib.hid hlen4
  have HS4 := Lib.hid hs4.rd
  have hR3 := HB3.out.size
  have hrlt : w.heap.size < w3.heap.size := HR3.out.lt
  have HR4 : Hid (Blk w4 w.heap.size 73 #[.int .i64 p, .int .i64 q]) := (hb4.block _ hrlt).trans HR3.out
  have HB4 : Hid (Below w.heap.size w w4) := HB3.out.trans (hb4.mono hR3)
  have HRD4 : Hid (Rd w4 w4.heap.size 2 v2 m (flat L)) := (HS3.out.rd.below hb4).more hb4.size
  clear hu4 hL4 hmem4 hlen4 hs4 hf4 hb4 hR3 hrlt HR3 HS3 HB3
  go_wp2_with fail
  (with_reducible refine (shift_ok _ m v2 L a b HRD4.out (by omega) (fun c hc => by have := HL.out c hc; unfold okC okZ; omega) (fun c hc => by have := shC_bd HA.out HBb.out (HL.out c hc); unfold okC okZ; omega) (by have := HA.out; omega) (by have := HA.out; omega) (by have := HBb.out; omega) (by have := HBb.out; omega)).mono ?_)
  rintro e w5 ⟨A5, m5, t5, rfl, ht5, hs5, hf5, hb5⟩
  have HT5 := Lib.hid ht5
  have HS5 := Lib.hid hs5.rd
  have hm5 : m5 ≤ 300 := by
    have e1 := hs5.1
    have e2 := tid_length ht5
    have e3 := HLL.out
    rw [flat_length] at e1
    rw [List.length_map] at e2
    omega
  have hrlt : w.heap.size < w4.heap.size := HR4.out.lt
  have HR5 : Hid (Blk w5 w.heap.size 73 #[.int .i64 p, .int .i64 q]) := (hb5.block _ hrlt).trans HR4.out
  have HB5 : Hid (Below w.heap.size w w5) := HB4.out.trans (hb5.mono HB4.out.size)
  have HS45 : Hid (Rd w5 w4.heap.size 2 (.slice A4 m4 m4) m4 (flat t4)) := HS4.out.below hb5
  have HZ45 : Hid (w4.heap.size ≤ w5.heap.size) := hb5.size
  clear ht5 hs5 hf5 hb5 hrlt HS4 HRD4 HB4 HR4
  have c0 : w5.cell? ⟨w.heap.size, 0, none⟩ = some (.int .i64 p) := HR5.out.cellS rfl
  have c1 : w5.cell? ⟨w.heap.size, 1, none⟩ = some (.int .i64 q) := HR5.out.cellS rfl
  go_wp2_with fail
  clear c0 c1
  (with_reducible refine (next_ok _ p q HG.out m5 _ t5 HS5.out (by omega) (fun c hc => by
    obtain ⟨d, hd, rfl⟩ := List.mem_map.1 ((tid_mem HT5.out c).1 hc); have := shC_bd HA.out HBb.out (HL.out d hd); unfold tight; omega)).mono ?_)
  rintro e w6 ⟨A6, m6, t6, rfl, ⟨u6, L6, hu6, hL6, hmem6⟩, hm6, hlen6, hs6, hf6, hb6⟩
  have HU6 := Lib.hid hu6
  have HL6 := Lib.hid hL6
  have HM6 := Lib.hid hmem6
  have HN6 := Lib.hid hlen6
  have HS6 := Lib.hid hs6.rd
  have HB6 : Hid (Below w.heap.size w w6) := HB5.out.trans (hb6.mono HB5.out.size)
  have HS46 : Hid (Rd w6 w6.heap.size 2 (.slice A4 m4 m4) m4 (flat t4)) := (HS45.out.below (hb6.mono HZ45.out)).more (Nat.le_trans HZ45.out hb6.size)
  have HBD : Hid (∀ c ∈ t4, (-1048577 ≤ c.1 ∧ c.1 ≤ 1048577) ∧ (-1048577 ≤ c.2 ∧ c.2 ≤ 1048577)) := fun c hc =>
    live_bd (n := 1048576) (goodR_e HG.out) (fun d hd => HL.out d ((tid_mem HU4.out d).1 hd)) ((HM4.out c).1 ((tid_mem HL4.out c).1 hc))
  clear hu6 hL6 hmem6 hlen6 hs6 hf6 hb6 HS45 HS5 HB5 HR5
  go_wp2_with fail
  (with_reducible refine (shift_ok _ m4 _ t4 a b HS46.out hm4 (fun c hc => by have := HBD.out c hc; unfold okC okZ; omega) (fun c hc => by have := shC_bd HA.out HBb.out (HBD.out c hc); unfold okC okZ; omega) (by have := HA.out; omega) (by have := HA.out; omega) (by have := HBb.out; omega) (by have := HBb.out; omega)).mono ?_)
  rintro e w8 ⟨A8, m8, t8, rfl, ht8, hs8, hf8, hb8⟩
  have htt : t6 = t8 := step_keeps (f := shC a b) (keeps_shift a b) HU4.out (tid_tid HT5.out HU6.out) HM4.out HM6.out HL4.out HL6.out ht8
  subst htt
  have hmm : m6 = m8 := by have e1 := hs8.1; have e2 := HN6.out; rw [flat_length] at e1; omega
  subst hmm
  have HB68 := Lib.hid hb8
  have HS8 := Lib.hid hs8.rd
  clear ht8 hs8 hf8 hb8
  go_wp2_with fail
  (with_reducible refine (lives_true _).mono ?_)
  rintro e w9 ⟨rfl, hb9⟩
  have HB69 : Hid (Below w6.heap.size w6 w9) := HB68.out.trans (hb9.mono HB68.out.size)
  have HS9 : Hid (Rd w9 w8.heap.size 2 (.slice A8 m6 m6) m6 (flat t6)) := HS8.out.below hb9
  have HS69 : Hid (Rd w9 w6.heap.size 2 (.slice A6 m6 m6) m6 (flat t6)) := HS6.out.below HB69.out
  clear hb9
  go_wp2_with fail
  (with_reducible refine (same_true _ _ _ m6 _ _ t6 HS69.out HS9.out).mono ?_)
  rintro e w10 ⟨rfl, d, rfl⟩
  go_wp2
  go_ret
  have hz := HB6.out.trans (HB69.out.mono HB6.out.size)
  exact ⟨rfl, ⟨hz.os, hz.tape, hz.output, hz.size, hz.block⟩⟩
end Go.Proofs.Ytfoipadgicjcaaa
