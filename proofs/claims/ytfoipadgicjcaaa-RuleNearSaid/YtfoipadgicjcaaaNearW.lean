/- RuleNear: the walk. -/
import Derived.Test.YtfoipadgicjcaaaRuleLaw
import Derived.Test.YtfoipadgicjcaaaBounds
import Derived.BigQuiet
namespace Go.Proofs.Ytfoipadgicjcaaa
open Go.RowKit

theorem near20n {L : List (Int × Int)} (h : ∀ c ∈ L, (-1048576 ≤ c.1 ∧ c.1 < 1048576) ∧ (-1048576 ≤ c.2 ∧ c.2 < 1048576)) : ∀ c ∈ L, (-1048576 ≤ c.1 ∧ c.1 ≤ 1048576) ∧ (-1048576 ≤ c.2 ∧ c.2 ≤ 1048576) := fun c hc => by
  have := h c hc; omega
theorem box_near {l u t L : List (Int × Int)} {b lv x0 y0 x1 y1 p0 q0 p1 q1 : Int} (hb : b % 2 = 0) (hu : Tid l u) (ht : Tid L t) (hL : ∀ c, c ∈ L ↔ liveC b lv u c = true) (h : IsBox l x0 y0 x1 y1) (k : IsBox t p0 q0 p1 q1) :
    x0 - 1 ≤ p0 ∧ y0 - 1 ≤ q0 ∧ p1 ≤ x1 + 1 ∧ q1 ≤ y1 + 1 := by
  have key : ∀ c ∈ t, ∃ s ∈ l, close c s := fun c hc => by
    obtain ⟨s, hs, hcl⟩ := live_close hb ((hL c).1 ((tid_mem ht c).1 hc))
    exact ⟨s, (tid_mem hu s).1 hs, hcl⟩
  obtain ⟨⟨_, a3⟩, ⟨_, b3⟩, ⟨_, c3⟩, _, d3⟩ := h
  obtain ⟨⟨⟨p, p1, rfl⟩, _⟩, ⟨⟨q, q1, rfl⟩, _⟩, ⟨⟨r, r1, rfl⟩, _⟩, ⟨s, s1, rfl⟩, _⟩ := k
  obtain ⟨p', e1, f1⟩ := key p p1
  obtain ⟨q', e2, f2⟩ := key q q1
  obtain ⟨r', e3, f3⟩ := key r r1
  obtain ⟨s', e4, f4⟩ := key s s1
  have g1 := a3 p' e1
  have g2 := b3 q' e2
  have g3 := c3 r' e3
  have g4 := d3 s' e4
  unfold close at f1 f2 f3 f4
  omega
theorem live_none {b lv : Int} (hb : b % 2 = 0) {u t L : List (Int × Int)} (hu : Tid [] u) (ht : Tid L t) (hL : ∀ c, c ∈ L ↔ liveC b lv u c = true) : t = [] := by
  cases t with
  | nil => rfl
  | cons c r =>
    obtain ⟨s, hs, _⟩ := live_close hb ((hL c).1 ((tid_mem ht c).1 (by simp)))
    have := (tid_mem hu s).1 hs
    simp at this

set_option maxRecDepth 100000 in
set_option maxHeartbeats 3200000 in
theorem near_any (w : World) (rb rl : Int) (hrb : -9223372036854775808 ≤ rb ∧ rb ≤ 9223372036854775807) (hrl : -9223372036854775808 ≤ rl ∧ rl ≤ 9223372036854775807) (n : Nat) (v : Value) (l : List (Int × Int))
    (h : Rd w w.heap.size 2 v n (flat l)) (hin : ∀ c ∈ l, inC c) :
    Calls Try.prog 10 #[.agg #[.int .i64 rb, .int .i64 rl], v] w fun e w' => e = .returned (.bool true) ∧ Below w.heap.size w w' := by
  have H := Lib.hid h
  have HIN := Lib.hid hin
  have HLEN : Hid (l.length = n) := (h.pairs).1
  clear h hin
  go_enter Try.func10, Try.ntmps10
  go_wp2_with fail
  (with_reducible refine (right_any _ rb rl hrb hrl).mono ?_)
  rintro e w1 ⟨rfl, hb1⟩
  have hz1 := hb1.size
  rw [World.size_alloc] at hb1 hz1
  have HB1 : Hid (Below w.heap.size w w1) := ((Below.refl _ _).alloc (Nat.le_refl _) _).trans (hb1.mono (by omega))
  have HR1 : Hid (Blk w1 w.heap.size 73 #[.int .i64 rb, .int .i64 rl]) := (hb1.block _ (by omega)).trans (Blk.new w _ _)
  have HZ1 := Lib.hid hz1
  have HG : Hid (goodR (rightB rb) (rightL rl)) := right_good rb rl
  generalize rightB rb = p at HG ⊢
  generalize rightL rl = q at HG ⊢
  clear hb1 hz1 hrb hrl
  go_wp2_with fail
  (with_reducible refine (some_lit _ n 300 300 rfl _ l 1048576 ((H.out.below HB1.out).more HB1.out.size) HIN.out (by omega) (by omega) (by omega)).mono ?_)
  rintro e w2 ⟨v2, rfl, hs2, hf2, hb2⟩
  have HL : Hid (∀ c ∈ someL l 300 1048576, (-1048576 ≤ c.1 ∧ c.1 ≤ 1048576) ∧ (-1048576 ≤ c.2 ∧ c.2 ≤ 1048576)) := near20n fun c hc => someL_near (by omega) hc
  have hm : min 300 n ≤ 300 := by omega
  have HLL : Hid ((someL l 300 1048576).length = min 300 n) := by show _ = _; rw [someL_length, HLEN.out]
  generalize min 300 n = m at hs2 hm HLL
  generalize someL l 300 1048576 = L at hs2 HL HLL
  have HS2 := Lib.hid hs2
  have HF2 := Lib.hid hf2
  have HB2 : Hid (Below w.heap.size w w2) := HB1.out.trans (hb2.mono HB1.out.size)
  have hr2 : Blk w2 w.heap.size 73 #[.int .i64 rb, .int .i64 rl] := (hb2.block _ (by have := HZ1.out; omega)).trans HR1.out
  have HR2 := Lib.hid hr2
  have c0 : w2.cell? ⟨w.heap.size, 0, none⟩ = some (.int .i64 rb) := hr2.cellS rfl
  have c1 : w2.cell? ⟨w.heap.size, 1, none⟩ = some (.int .i64 rl) := hr2.cellS rfl
  have f0 := hr2.frozen 0
  have f1 := hr2.frozen 1
  clear hs2 hf2 hb2 hr2
  go_wp2_with fail
  clear c0 c1 f0 f1
  generalize hw3 : World.setCell (World.setCell w2 _ _) _ _ = w3
  have HR3 : Hid (Blk w3 w.heap.size 73 #[.int .i64 p, .int .i64 q]) := by subst hw3; exact (HR2.out.set 0 _).set 1 _
  have hne2 : sblk v2 ≠ some w.heap.size := fun e => by have := HF2.out _ e; have := HZ1.out; omega
  have HS3 : Hid (Sl w3 62 2 v2 m (flat L)) := by subst hw3; exact (HS2.out.far hne2 _).far hne2 _
  have HB3 : Hid (Below w.heap.size w w3) := by subst hw3; exact (HB2.out.setCell (Nat.le_refl _) _).setCell (Nat.le_refl _) _
  clear hw3 hne2 HR2 HS2 HB2 HB1 HR1
  have c0 : w3.cell? ⟨w.heap.size, 0, none⟩ = some (.int .i64 p) := HR3.out.cellS rfl
  have c1 : w3.cell? ⟨w.heap.size, 1, none⟩ = some (.int .i64 q) := HR3.out.cellS rfl
  go_wp2_with fail
  clear c0 c1
  (with_reducible refine (next_ok _ p q HG.out m v2 L HS3.out.rd (by omega) (fun c hc => by have := HL.out c hc; unfold tight; omega)).mono ?_)
  rintro e w4 ⟨A4, m4, t4, rfl, ⟨u4, L4, hu4, hL4, hmem4⟩, hm4, hlen4, hs4, hf4, hb4⟩
  have HU4 := Lib.hid hu4
  have HL4 := Lib.hid hL4
  have HM4 := Lib.hid hmem4
  have HN4 := Lib.hid hlen4
  have HS4 := Lib.hid hs4.rd
  have hR3 := HB3.out.size
  have hrlt : w.heap.size < w3.heap.size := HR3.out.lt
  have HR4 : Hid (Blk w4 w.heap.size 73 #[.int .i64 p, .int .i64 q]) := (hb4.block _ hrlt).trans HR3.out
  have HB4 : Hid (Below w.heap.size w w4) := HB3.out.trans (hb4.mono hR3)
  have HRD4 : Hid (Rd w4 w4.heap.size 2 v2 m (flat L)) := (HS3.out.rd.below hb4).more hb4.size
  clear hu4 hL4 hmem4 hlen4 hs4 hf4 hb4 hR3 hrlt HR3 HS3 HB3
  rcases Nat.eq_zero_or_pos m with hm0 | hm0
  · subst hm0
    have hL0 : L = [] := List.eq_nil_of_length_eq_zero HLL.out
    subst hL0
    obtain rfl := live_none (goodR_e HG.out) HU4.out HL4.out HM4.out
    obtain rfl : m4 = 0 := by have := HN4.out; simpa using this.symm
    obtain ⟨Av2, cv2, rfl, _, _⟩ := HRD4.out.form
    as_aux_lemma =>
    go_wp2_with fail
    (with_reducible refine (bounds_none _ _ _).mono ?_)
    rintro e w5 ⟨rfl, hb5⟩
    have HB45 := Lib.hid hb5
    clear hb5
    go_wp2_with fail
    (with_reducible refine (bounds_none _ _ _).mono ?_)
    rintro e w6 ⟨rfl, hb6⟩
    have hb6z := hb6.size
    rw [World.size_alloc] at hb6z
    have HB46 : Hid (Below w4.heap.size w4 w6) := (HB45.out.alloc HB45.out.size _).trans (hb6.mono (by rw [World.size_alloc]; have := HB45.out.size; omega))
    clear hb6
    go_wp2_with fail
    generalize hw7 : World.alloc w6 _ = w7
    have HB47 : Hid (Below w4.heap.size w4 w7) := by subst hw7; exact HB46.out.alloc HB46.out.size _
    clear hw7 hb6z
    (with_reducible refine (lives_true _).mono ?_)
    rintro e w8 ⟨rfl, hb8⟩
    have HB48 : Hid (Below w4.heap.size w4 w8) := HB47.out.trans (hb8.mono HB47.out.size)
    clear hb8
    go_wp2
    go_ret
    exact ⟨rfl, HB4.out.trans (HB48.out.mono HB4.out.size)⟩
  · as_aux_lemma =>
    go_wp2_with fail
    (with_reducible refine (bounds_any _ m _ L HRD4.out hm0).mono ?_)
    rintro e w5 ⟨x0, y0, x1, y1, rfl, hbox5, hb5⟩
    have HBOX := Lib.hid hbox5
    have hxy : ((-1048576 ≤ x0 ∧ x0 ≤ 1048576) ∧ (-1048576 ≤ y0 ∧ y0 ≤ 1048576)) ∧ (-1048576 ≤ x1 ∧ x1 ≤ 1048576) ∧ (-1048576 ≤ y1 ∧ y1 ≤ 1048576) := by
      obtain ⟨⟨⟨p, p1, rfl⟩, p3⟩, ⟨⟨q, q1, rfl⟩, q3⟩, ⟨⟨r, r1, rfl⟩, r3⟩, ⟨s, s1, rfl⟩, s3⟩ := hbox5
      exact ⟨⟨(HL.out p p1).1, (HL.out q q1).2⟩, (HL.out r r1).1, (HL.out s s1).2⟩
    have HXY := Lib.hid hxy
    have HB45 := Lib.hid hb5
    have HS5 : Hid (Rd (w5.alloc (.cells #[.int .i64 x0, .int .i64 y0, .int .i64 x1, .int .i64 y1] 68)) (w5.alloc (.cells #[.int .i64 x0, .int .i64 y0, .int .i64 x1, .int .i64 y1] 68)).heap.size 2 (.slice A4 m4 m4) m4 (flat t4)) := by
      refine (HS4.out.below ((hb5.alloc hb5.size _))).more ?_
      rw [World.size_alloc]; have := hb5.size; omega
    clear hbox5 hb5 hxy
    rcases Nat.eq_zero_or_pos m4 with hm40 | hm40
    · subst hm40
      go_wp2_with fail
      (with_reducible refine (bounds_none _ _ _).mono ?_)
      rintro e w6 ⟨rfl, hb6⟩
      have hb6z := hb6.size
      rw [World.size_alloc] at hb6z
      have HB46 : Hid (Below w4.heap.size w4 w6) := (HB45.out.alloc HB45.out.size _).trans (hb6.mono (by rw [World.size_alloc]; have := HB45.out.size; omega))
      clear hb6
      go_wp2_with fail
      generalize hw7 : World.alloc w6 _ = w7
      have HB47 : Hid (Below w4.heap.size w4 w7) := by subst hw7; exact HB46.out.alloc HB46.out.size _
      clear hw7 hb6z
      (with_reducible refine (lives_true _).mono ?_)
      rintro e w8 ⟨rfl, hb8⟩
      have HB48 : Hid (Below w4.heap.size w4 w8) := HB47.out.trans (hb8.mono HB47.out.size)
      clear hb8
      go_wp2
      go_ret
      exact ⟨rfl, HB4.out.trans (HB48.out.mono HB4.out.size)⟩
    · go_wp2_with fail
      (with_reducible refine (bounds_any _ m4 _ t4 HS5.out hm40).mono ?_)
      rintro e w6 ⟨p0, q0, p1, q1, rfl, hbox6, hb6⟩
      obtain ⟨k1, k2, k3, k4⟩ := box_near (goodR_e HG.out) HU4.out HL4.out HM4.out HBOX.out hbox6
      have hb6z := hb6.size
      rw [World.size_alloc] at hb6z
      have hbk5 : Blk w6 w5.heap.size 68 #[.int .i64 x0, .int .i64 y0, .int .i64 x1, .int .i64 y1] := (Blk.new w5 _ _).mod (Mod.of_below_all hb6) id
      have HB46 : Hid (Below w4.heap.size w4 w6) := (HB45.out.alloc HB45.out.size _).trans (hb6.mono (by rw [World.size_alloc]; have := HB45.out.size; omega))
      have HBK5 := Lib.hid hbk5
      have HK : Hid (x0 - 1 ≤ p0 ∧ y0 - 1 ≤ q0 ∧ p1 ≤ x1 + 1 ∧ q1 ≤ y1 + 1) := ⟨k1, k2, k3, k4⟩
      clear hb6 hbk5 hbox6 k1 k2 k3 k4
      go_wp2_with fail
      generalize hw7 : World.alloc w6 _ = w7
      have HB47 : Hid (Below w4.heap.size w4 w7) := by subst hw7; exact HB46.out.alloc HB46.out.size _
      have HBK57 : Hid (Blk w7 w5.heap.size 68 #[.int .i64 x0, .int .i64 y0, .int .i64 x1, .int .i64 y1]) := by subst hw7; exact HBK5.out.alloc _
      have HBK67 : Hid (Blk w7 w6.heap.size 68 #[.int .i64 p0, .int .i64 q0, .int .i64 p1, .int .i64 q1]) := by subst hw7; exact Blk.new w6 _ _
      clear hw7 hb6z HBK5
      (with_reducible refine (lives_true _).mono ?_)
      rintro e w8 ⟨rfl, hb8⟩
      have HB48 : Hid (Below w4.heap.size w4 w8) := HB47.out.trans (hb8.mono HB47.out.size)
      have d5 := HBK57.out.mod (Mod.of_below_all hb8) id
      have d6 := HBK67.out.mod (Mod.of_below_all hb8) id
      have c50 : w8.cell? ⟨w5.heap.size, 0, none⟩ = some (.int .i64 x0) := d5.cellS rfl
      have c51 : w8.cell? ⟨w5.heap.size, 1, none⟩ = some (.int .i64 y0) := d5.cellS rfl
      have c52 : w8.cell? ⟨w5.heap.size, 2, none⟩ = some (.int .i64 x1) := d5.cellS rfl
      have c53 : w8.cell? ⟨w5.heap.size, 3, none⟩ = some (.int .i64 y1) := d5.cellS rfl
      have c60 : w8.cell? ⟨w6.heap.size, 0, none⟩ = some (.int .i64 p0) := d6.cellS rfl
      have c61 : w8.cell? ⟨w6.heap.size, 1, none⟩ = some (.int .i64 q0) := d6.cellS rfl
      have c62 : w8.cell? ⟨w6.heap.size, 2, none⟩ = some (.int .i64 p1) := d6.cellS rfl
      have c63 : w8.cell? ⟨w6.heap.size, 3, none⟩ = some (.int .i64 q1) := d6.cellS rfl
      obtain ⟨⟨⟨g1, g2⟩, g3, g4⟩, ⟨g5, g6⟩, g7, g8⟩ := HXY.out
      obtain ⟨k1, k2, k3, k4⟩ := HK.out
      clear hb8 d5 d6
      go_wp2
      go_ret
      exact ⟨rfl, HB4.out.trans (HB48.out.mono HB4.out.size)⟩
end Go.Proofs.Ytfoipadgicjcaaa
