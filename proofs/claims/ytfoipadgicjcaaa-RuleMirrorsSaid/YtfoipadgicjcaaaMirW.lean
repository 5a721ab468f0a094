/- RuleMirrors: the walk. -/
import Derived.Test.YtfoipadgicjcaaaRuleLaw
import Derived.Test.YtfoipadgicjcaaaFlip
import Derived.Deep.RegionHeld3
namespace Go.Proofs.Ytfoipadgicjcaaa
open Go.RowKit

theorem near20 {L : List (Int × Int)} (h : ∀ c ∈ L, (-1048576 ≤ c.1 ∧ c.1 < 1048576) ∧ (-1048576 ≤ c.2 ∧ c.2 < 1048576)) : ∀ c ∈ L, (-1048576 ≤ c.1 ∧ c.1 ≤ 1048576) ∧ (-1048576 ≤ c.2 ∧ c.2 ≤ 1048576) := fun c hc => by
  have := h c hc; omega

set_option maxRecDepth 100000 in
set_option maxHeartbeats 3200000 in
theorem mirrors_any (w : World) (rb rl : Int) (hrb : -9223372036854775808 ≤ rb ∧ rb ≤ 9223372036854775807) (hrl : -9223372036854775808 ≤ rl ∧ rl ≤ 9223372036854775807) (n : Nat) (v : Value) (l : List (Int × Int)) (way : Int)
    (h : Rd w w.heap.size 2 v n (flat l)) (hin : ∀ c ∈ l, inC c) (hw : -9223372036854775808 ≤ way ∧ way ≤ 9223372036854775807) :
    Calls Try.prog 8 #[.agg #[.int .i64 rb, .int .i64 rl], v, .int .i64 way] w fun e w' => e = .returned (.bool true) ∧ Below w.heap.size w w' := by
  have H := Lib.hid h
  have HIN := Lib.hid hin
  have HW := Lib.hid hw
  have HLEN : Hid (l.length = n) := (h.pairs).1
  clear h hin hw
  go_enter Try.func8, Try.ntmps8
  go_wp2_with fail
  (with_reducible refine (right_any _ rb rl hrb hrl).mono ?_)
  rintro e w1 ⟨rfl, hb1⟩
  have hz1 := hb1.size
  rw [World.size_alloc] at hb1 hz1
  have HB1 : Hid (Below w.heap.size w w1) := ((Below.refl _ _).alloc (Nat.le_refl _) _).trans (hb1.mono (by omega))
  have HR1 : Hid (Blk w1 w.heap.size 73 #[.int .i64 rb, .int .i64 rl]) := (hb1.block _ (by omega)).trans (Blk.new w _ _)
  have HZ1 := Lib.hid hz1
  have HG : Hid (goodR (rightB rb) (rightL rl)) := right_good rb rl
  generalize rightB rb = p at HG ⊢
  generalize rightL rl = q at HG ⊢
  clear hb1 hz1 hrb hrl
  go_wp2_with fail
  (with_reducible refine (some_lit _ n 300 300 rfl _ l 1048576 ((H.out.below HB1.out).more HB1.out.size) HIN.out (by omega) (by omega) (by omega)).mono ?_)
  rintro e w2 ⟨v2, rfl, hs2, hf2, hb2⟩
  have HL : Hid (∀ c ∈ someL l 300 1048576, (-1048576 ≤ c.1 ∧ c.1 ≤ 1048576) ∧ (-1048576 ≤ c.2 ∧ c.2 ≤ 1048576)) := near20 fun c hc => someL_near (by omega) hc
  have hm : min 300 n ≤ 300 := by omega
  have HLL : Hid ((someL l 300 1048576).length = min 300 n) := by show _ = _; rw [someL_length, HLEN.out]
  generalize min 300 n = m at hs2 hm HLL
  generalize someL l 300 1048576 = L at hs2 HL HLL
  have HS2 := Lib.hid hs2
  have HF2 := Lib.hid hf2
  have HB2 : Hid (Below w.heap.size w w2) := HB1.out.trans (hb2.mono HB1.out.size)
  have hr2 : Blk w2 w.heap.size 73 #[.int .i64 rb, .int .i64 rl] := (hb2.block _ (by have := HZ1.out; omega)).trans HR1.out
  have HR2 := Lib.hid hr2
  clear hs2 hf2 hb2
  go_wp2_with fail
  (with_reducible refine (spot_any way 8 (by omega) (by omega) HW.out.1 HW.out.2 _).mono ?_)
  rintro e wq ⟨rfl, rfl⟩
  obtain ⟨wn, hwn⟩ : ∃ wn : Nat, way % 8 = wn := ⟨(way % 8).toNat, by omega⟩
  have hw8 : wn < 8 := by omega
  rw [hwn]
  clear hwn
  have c0 : w2.cell? ⟨w.heap.size, 0, none⟩ = some (.int .i64 rb) := hr2.cellS rfl
  have c1 : w2.cell? ⟨w.heap.size, 1, none⟩ = some (.int .i64 rl) := hr2.cellS rfl
  have f0 := hr2.frozen 0
  have f1 := hr2.frozen 1
  clear hr2
  go_wp2_with fail
  clear c0 c1 f0 f1
  generalize hw3 : World.setCell (World.setCell w2 _ _) _ _ = w3
  have HR3 : Hid (Blk w3 w.heap.size 73 #[.int .i64 p, .int .i64 q]) := by subst hw3; exact (HR2.out.set 0 _).set 1 _
  have hne2 : sblk v2 ≠ some w.heap.size := fun e => by have := HF2.out _ e; have := HZ1.out; omega
  have HS3 : Hid (Sl w3 62 2 v2 m (flat L)) := by subst hw3; exact (HS2.out.far hne2 _).far hne2 _
  have HB3 : Hid (Below w.heap.size w w3) := by subst hw3; exact (HB2.out.setCell (Nat.le_refl _) _).setCell (Nat.le_refl _) _
  clear hw3 hne2 HR2 HS2 HB2 HB1 HR1
  (with_reducible refine (next_ok _ p q HG.out m v2 L HS3.out.rd (by omega) (fun c hc => by have := HL.out c hc; unfold tight; omega)).mono ?_)
  rintro e w4 ⟨A4, m4, t4, rfl, ⟨u4, L4, hu4, hL4, hmem4⟩, hm4, hlen4, hs4, hf4, hb4⟩
  have HU4 := Lib.hid hu4
  have HL4 := Lib.hid hL4
  have HM4 := Lib.hid hmem4
  have HN4 := Lib.hid hlen4
  have HS4 := Lib.hid hs4.rd
  have hR3 := HB3.out.size
  have hrlt : w.heap.size < w3.heap.size := HR3.out.lt
  have hr4 : Blk w4 w.heap.size 73 #[.int .i64 p, .int .i64 q] := (hb4.block _ hrlt).trans HR3.out
  have HB4 : Hid (Below w.heap.size w w4) := HB3.out.trans (hb4.mono hR3)
  have HRD4 : Hid (Rd w4 w4.heap.size 2 v2 m (flat L)) := (HS3.out.rd.below hb4).more hb4.size
  have hrl4 : w.heap.size < w4.heap.size := hr4.lt
  have c0 : w4.cell? ⟨w.heap.size, 0, none⟩ = some (.int .i64 p) := hr4.cellS rfl
  have c1 : w4.cell? ⟨w.heap.size, 1, none⟩ = some (.int .i64 q) := hr4.cellS rfl
  clear hu4 hL4 hmem4 hlen4 hs4 hf4 hb4 hR3 hrlt HR3 HS3 HB3 hr4
  go_wp2_with fail
  go_region_held3 (fun w' => w'.cell? ⟨w.heap.size, 0, none⟩ = some (.int .i64 p) ∧ w'.cell? ⟨w.heap.size, 1, none⟩ = some (.int .i64 q)) (first | exact ⟨c0, c1⟩ | exact ⟨(hb5.cell (p := ⟨w.heap.size, 0, none⟩) hrl4).trans c0, (hb5.cell (p := ⟨w.heap.size, 1, none⟩) hrl4).trans c1⟩ | exact ⟨(hb6.cell (p := ⟨w.heap.size, 0, none⟩) hrl5).trans ((hb5.cell (p := ⟨w.heap.size, 0, none⟩) hrl4).trans c0), (hb6.cell (p := ⟨w.heap.size, 1, none⟩) hrl5).trans ((hb5.cell (p := ⟨w.heap.size, 1, none⟩) hrl4).trans c1)⟩)
    (first
      | (go_at_call 37; refine (flip_any _ m v2 L wn hw8 (by exact HRD4.out) (by omega) (fun c hc => by have := HL.out c hc; unfold okC okZ; omega)).mono ?_; rintro e w5 ⟨v5, rfl, hs5, hf5, hb5⟩; have hrl5 : w.heap.size < w5.heap.size := Nat.lt_of_lt_of_le hrl4 hb5.size)
      | (go_at_call 36; refine (next_ok _ p q HG.out m v5 (L.map (flC wn)) (by exact hs5.rd) (by omega) (fun c hc => by obtain ⟨d, hd, rfl⟩ := List.mem_map.1 hc; have := flC_bd (way := wn) (HL.out d hd); unfold tight; omega)).mono ?_; rintro e w6 ⟨A6, m6, t6, rfl, ⟨u6, L6, hu6, hL6, hmem6⟩, hm6, hlen6, hs6, hf6, hb6⟩))
  have hb45 : Below w4.heap.size w4 w5 := ⟨hb5.os, hb5.tape, hb5.output, hb5.size, hb5.block⟩
  have HB6 : Hid (Below w.heap.size w w6) := (HB4.out.trans (hb45.mono HB4.out.size)).trans (hb6.mono (Nat.le_trans HB4.out.size hb45.size))
  have HS46 : Hid (Rd w6 w6.heap.size 2 (.slice A4 m4 m4) m4 (flat t4)) := ((HS4.out.below hb45).below (hb6.mono hb45.size)).more (Nat.le_trans hb45.size hb6.size)
  have HS6 : Hid (Rd w6 w6.heap.size 2 (.slice A6 m6 m6) m6 (flat t6)) := hs6.rd
  have HU6 := Lib.hid hu6
  have HL6 := Lib.hid hL6
  have HM6 := Lib.hid hmem6
  have HN6 := Lib.hid hlen6
  have HBD : Hid (∀ c ∈ t4, (-1048577 ≤ c.1 ∧ c.1 ≤ 1048577) ∧ (-1048577 ≤ c.2 ∧ c.2 ≤ 1048577)) := fun c hc =>
    live_bd (n := 1048576) (goodR_e HG.out) (fun d hd => HL.out d ((tid_mem HU4.out d).1 hd)) ((HM4.out c).1 ((tid_mem HL4.out c).1 hc))
  clear hb45 hs6 hu6 hL6 hmem6 hlen6 hb5 hs5 hf5 hb6 hf6 c0 c1 hrl4 hrl5 HS4 HRD4 HB4
  go_wp2_with fail
  (with_reducible refine (flip_any _ m4 _ t4 wn hw8 HS46.out hm4 (fun c hc => by have := HBD.out c hc; unfold okC okZ; omega)).mono ?_)
  rintro e w7 ⟨v7, rfl, hs7, hf7, hb7⟩
  have HS7 := Lib.hid hs7.rd
  have HB67 := Lib.hid hb7
  clear hs7 hf7 hb7
  go_wp2_with fail
  (with_reducible refine (tidy_ok _ w7.heap.size m4 v7 (t4.map (flC wn)) HS7.out (Nat.le_refl _) hm4 (fun c hc => by obtain ⟨d, hd, rfl⟩ := List.mem_map.1 hc; have := flC_bd (way := wn) (HBD.out d hd); unfold okC okZ; omega)).mono ?_)
  rintro e w8 ⟨A8, m8, t8, rfl, ht8, hs8, hf8, hb8⟩
  have htt : t6 = t8 := step_keeps (keeps_flip wn) HU4.out HU6.out HM4.out HM6.out HL4.out HL6.out ht8
  subst htt
  have hmm : m6 = m8 := by have e1 := hs8.1; have e2 := HN6.out; rw [flat_length] at e1; omega
  subst hmm
  have HB68 : Hid (Below w6.heap.size w6 w8) := HB67.out.trans (hb8.mono HB67.out.size)
  have HS8 := Lib.hid hs8.rd
  clear ht8 hs8 hf8 hb8
  go_wp2_with fail
  (with_reducible refine (lives_true _).mono ?_)
  rintro e w9 ⟨rfl, hb9⟩
  have HB69 : Hid (Below w6.heap.size w6 w9) := HB68.out.trans (hb9.mono HB68.out.size)
  have HS9 : Hid (Rd w9 w8.heap.size 2 (.slice A8 m6 m6) m6 (flat t6)) := HS8.out.below hb9
  have HS69 : Hid (Rd w9 w6.heap.size 2 (.slice A6 m6 m6) m6 (flat t6)) := HS6.out.below HB69.out
  clear hb9
  go_wp2_with fail
  (with_reducible refine (same_true _ _ _ m6 _ _ t6 HS69.out HS9.out).mono ?_)
  rintro e w10 ⟨rfl, d, rfl⟩
  go_wp2
  go_ret
  have hz := HB6.out.trans (HB69.out.mono HB6.out.size)
  exact ⟨rfl, ⟨hz.os, hz.tape, hz.output, hz.size, hz.block⟩⟩
end Go.Proofs.Ytfoipadgicjcaaa
