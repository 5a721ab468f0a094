/- RuleCuts: the walk. -/
import Derived.Test.YtkandepkojfblaaRun
import Derived.BigQuiet
namespace Go.Proofs.Ytkandepkojfblaa
open Go.RowKit

theorem run_lit (w : World) (b lv : Int) (hg : goodR b lv) (k : Nat) (ki : Int) (hki : ki = k) (hk : k ≤ 256) (n : Nat) (v : Value) (l : List (Int × Int)) (h : Rd w w.heap.size 2 v n (flat l)) (hn : n ≤ 4096) (hok : ∀ c ∈ l, (-1000000 ≤ c.1 ∧ c.1 ≤ 1000000) ∧ (-1000000 ≤ c.2 ∧ c.2 ≤ 1000000)) :
    Calls Try.prog 9 #[.agg #[.int .i64 b, .int .i64 lv], v, .int .i64 ki] w (RunPost w b lv k l) := by
  subst hki; exact run_any w b lv hg k hk n v l h hn hok

/-- A run may be cut. -/
theorem run_cut {b lv : Int} {L t u s x y z : List (Int × Int)} {n m : Nat} (hb : b % 2 = 0) (ht : Tid L t) (h1 : Steps b lv (n + m) t u) (ht2 : Tid L x) (ht3 : Tid s y) (h2 : Steps b lv n x s ∨ Fails b lv n x) (h3 : Steps b lv m y z ∨ Fails b lv m y) :
    Steps b lv n x s → (Steps b lv m y z ∧ z = u) := by
  intro hs
  obtain rfl := ht.unique ht2
  obtain ⟨s', h4, h5⟩ := Steps.split m h1
  obtain rfl := hs.det h4
  obtain rfl := ht3.unique (tid_self (hs.sorted ht.1))
  rcases h3 with h3 | h3
  · exact ⟨h3, h3.det h5⟩
  · exact absurd h3 h5.not_fails

set_option maxRecDepth 100000 in
set_option maxHeartbeats 3200000 in
theorem cuts_any (w : World) (rb rl : Int) (hrb : -9223372036854775808 ≤ rb ∧ rb ≤ 9223372036854775807) (hrl : -9223372036854775808 ≤ rl ∧ rl ≤ 9223372036854775807) (n : Nat) (v : Value) (l : List (Int × Int)) (dx dy : Int)
    (h : Rd w w.heap.size 2 v n (flat l)) (hin : ∀ c ∈ l, inC c) (hx : -9223372036854775808 ≤ dx ∧ dx ≤ 9223372036854775807) (hy : -9223372036854775808 ≤ dy ∧ dy ≤ 9223372036854775807) :
    Calls Try.prog 3 #[.agg #[.int .i64 rb, .int .i64 rl], v, .int .i64 dx, .int .i64 dy] w fun e w' => e = .returned (.bool true) ∧ Below w.heap.size w w' := by
  have H := Lib.hid h
  have HIN := Lib.hid hin
  have HX := Lib.hid hx
  have HY := Lib.hid hy
  have HLEN : Hid (l.length = n) := (h.pairs).1
  clear h hin hx hy
  go_enter Try.func3, Try.ntmps3
  go_wp2_with fail
  (with_reducible refine (right_any _ rb rl hrb hrl).mono ?_)
  rintro e w1 ⟨rfl, hb1⟩
  have hz1 := hb1.size
  rw [World.size_alloc] at hb1 hz1
  have HB1 : Hid (Below w.heap.size w w1) := ((Below.refl _ _).alloc (Nat.le_refl _) _).trans (hb1.mono (by omega))
  have HR1 : Hid (Blk w1 w.heap.size 23 #[.int .i64 rb, .int .i64 rl]) := (hb1.block _ (by omega)).trans (Blk.new w _ _)
  have HZ1 := Lib.hid hz1
  have HG : Hid (goodR (rightB rb) (rightL rl)) := right_good rb rl
  generalize rightB rb = p at HG ⊢
  generalize rightL rl = q at HG ⊢
  clear hb1 hz1 hrb hrl
  go_wp2_with fail
  (with_reducible refine (some_lit _ n 30 30 rfl _ l 8 ((H.out.below HB1.out).more HB1.out.size) HIN.out (by omega) (by omega) (by omega)).mono ?_)
  rintro e w2 ⟨v2, rfl, hs2, hf2, hb2⟩
  have HL : Hid (∀ c ∈ someL l 30 8, (-8 ≤ c.1 ∧ c.1 ≤ 8) ∧ (-8 ≤ c.2 ∧ c.2 ≤ 8)) := fun c hc => by have := someL_near (near := 8) (by omega) hc; omega
  have hm : min 30 n ≤ 30 := by omega
  have HLL : Hid ((someL l 30 8).length = min 30 n) := by show _ = _; rw [someL_length, HLEN.out]
  generalize min 30 n = m at hs2 hm HLL
  generalize someL l 30 8 = L at hs2 HL HLL
  have HS2 := Lib.hid hs2
  have HF2 := Lib.hid hf2
  have HB2 : Hid (Below w.heap.size w w2) := HB1.out.trans (hb2.mono HB1.out.size)
  have hr2 : Blk w2 w.heap.size 23 #[.int .i64 rb, .int .i64 rl] := (hb2.block _ (by have := HZ1.out; omega)).trans HR1.out
  have HR2 := Lib.hid hr2
  have c0 : w2.cell? ⟨w.heap.size, 0, none⟩ = some (.int .i64 rb) := hr2.cellS rfl
  have c1 : w2.cell? ⟨w.heap.size, 1, none⟩ = some (.int .i64 rl) := hr2.cellS rfl
  have f0 := hr2.frozen 0
  have f1 := hr2.frozen 1
  clear hs2 hf2 hb2 hr2
  go_wp2_with fail
  clear c0 c1 f0 f1
  generalize hw3 : World.setCell (World.setCell w2 _ _) _ _ = w3
  have HR3 : Hid (Blk w3 w.heap.size 23 #[.int .i64 p, .int .i64 q]) := by subst hw3; exact (HR2.out.set 0 _).set 1 _
  have hne2 : sblk v2 ≠ some w.heap.size := fun e => by have := HF2.out _ e; have := HZ1.out; omega
  have HS3 : Hid (Sl w3 41 2 v2 m (flat L)) := by subst hw3; exact (HS2.out.far hne2 _).far hne2 _
  have HB3 : Hid (Below w.heap.size w w3) := by subst hw3; exact (HB2.out.setCell (Nat.le_refl _) _).setCell (Nat.le_refl _) _
  clear hw3 hne2 HR2 HS2 HB2 HB1 HR1
  (with_reducible refine (spot_any dx 12 (by omega) (by omega) HX.out.1 HX.out.2 _).mono ?_)
  rintro e wq ⟨rfl, rfl⟩
  go_wp2_with fail
  (with_reducible refine (spot_any dy 12 (by omega) (by omega) HY.out.1 HY.out.2 _).mono ?_)
  rintro e wq ⟨rfl, rfl⟩
  obtain ⟨a, ha⟩ : ∃ a : Nat, dx % 12 = a := ⟨(dx % 12).toNat, by omega⟩
  obtain ⟨b, hb⟩ : ∃ b : Nat, dy % 12 = b := ⟨(dy % 12).toNat, by omega⟩
  have ha8 : (a : Int) < 12 := by omega
  have hb8 : (b : Int) < 12 := by omega
  rw [ha, hb]
  clear ha hb
  have c0 : w3.cell? ⟨w.heap.size, 0, none⟩ = some (.int .i64 p) := HR3.out.cellS rfl
  have c1 : w3.cell? ⟨w.heap.size, 1, none⟩ = some (.int .i64 q) := HR3.out.cellS rfl
  go_wp2_with fail
  clear c0 c1
  (with_reducible refine (run_lit _ p q HG.out (a + b) _ (by omega) (by omega) m v2 L HS3.out.rd (by omega) (fun c hc => by have := HL.out c hc; omega)).mono ?_)
  rintro e w4 ⟨v4, m4, u4, er4, rfl, hs4, hm4, hb4, t4, ht4, hc4⟩
  have HS4 := Lib.hid hs4
  have hR3 := HB3.out.size
  have hrlt : w.heap.size < w3.heap.size := HR3.out.lt
  have HR4 : Hid (Blk w4 w.heap.size 23 #[.int .i64 p, .int .i64 q]) := (hb4.block _ hrlt).trans HR3.out
  have HB4 : Hid (Below w.heap.size w w4) := HB3.out.trans (hb4.mono hR3)
  have HRD4 : Hid (Rd w4 w4.heap.size 2 v2 m (flat L)) := (HS3.out.rd.below hb4).more hb4.size
  have HT4 := Lib.hid ht4
  have HC4 := Lib.hid hc4
  clear ht4 hc4 hs4 hb4 hR3 hrlt HR3 HS3 HB3
  have c0 : w4.cell? ⟨w.heap.size, 0, none⟩ = some (.int .i64 p) := HR4.out.cellS rfl
  have c1 : w4.cell? ⟨w.heap.size, 1, none⟩ = some (.int .i64 q) := HR4.out.cellS rfl
  go_wp2_with fail
  clear c0 c1
  (with_reducible refine (run_lit _ p q HG.out a _ rfl (by omega) m v2 L HRD4.out (by omega) (fun c hc => by have := HL.out c hc; omega)).mono ?_)
  rintro e w5 ⟨v5, m5, u5, er5, rfl, hs5, hm5, hb5, t5, ht5, hc5⟩
  have HS5 := Lib.hid hs5
  have hrlt : w.heap.size < w4.heap.size := HR4.out.lt
  have HR5 : Hid (Blk w5 w.heap.size 23 #[.int .i64 p, .int .i64 q]) := (hb5.block _ hrlt).trans HR4.out
  have HB5 : Hid (Below w.heap.size w w5) := HB4.out.trans (hb5.mono HB4.out.size)
  have HS45 : Hid (Rd w5 w4.heap.size 2 v4 m4 (flat u4)) := HS4.out.below hb5
  have HZ45 : Hid (w4.heap.size ≤ w5.heap.size) := hb5.size
  have HT5 := Lib.hid ht5
  have HC5 := Lib.hid hc5
  have HBD : Hid (∀ c ∈ u5, (-1000000 ≤ c.1 ∧ c.1 ≤ 1000000) ∧ (-1000000 ≤ c.2 ∧ c.2 ≤ 1000000)) := fun c hc => by
    rcases hc5 with ⟨_, hst⟩ | ⟨_, hu, _⟩
    · have := Steps.bd (goodR_e HG.out) hst (n := 8) (fun d hd => HL.out d ((tid_mem HT5.out d).1 hd)) c hc
      omega
    · rw [hu] at hc; simp at hc
  clear ht5 hc5 hs5 hb5 hrlt HS4 HRD4 HB4 HR4
  have c0 : w5.cell? ⟨w.heap.size, 0, none⟩ = some (.int .i64 p) := HR5.out.cellS rfl
  have c1 : w5.cell? ⟨w.heap.size, 1, none⟩ = some (.int .i64 q) := HR5.out.cellS rfl
  go_wp2_with fail
  clear c0 c1
  (with_reducible refine (run_lit _ p q HG.out b _ rfl (by omega) m5 v5 u5 HS5.out hm5 HBD.out).mono ?_)
  rintro e w6 ⟨v6, m6, u6, er6, rfl, hs6, hm6, hb6, t6, ht6, hc6⟩
  have HS6 := Lib.hid hs6
  have HB6 : Hid (Below w.heap.size w w6) := HB5.out.trans (hb6.mono HB5.out.size)
  have HS46 : Hid (Rd w6 w6.heap.size 2 v4 m4 (flat u4)) := (HS45.out.below (hb6.mono HZ45.out)).more (Nat.le_trans HZ45.out hb6.size)
  have HT6 := Lib.hid ht6
  have HC6 := Lib.hid hc6
  clear hs6 hb6 ht6 hc6 HS45 HS5 HB5 HR5
  have key : er4 = 0 → er5 = 0 ∧ er6 = 0 ∧ u6 = u4 := by
    intro h4
    rcases HC4.out with ⟨_, hst⟩ | ⟨h5, _, _⟩
    · obtain ⟨s', k1, k2⟩ := Steps.split b hst
      rcases HC5.out with ⟨e5, st5⟩ | ⟨_, _, f5⟩
      · rcases HC6.out with ⟨e6, st6⟩ | ⟨_, _, f6⟩
        · exact ⟨e5, e6, (run_cut (goodR_e HG.out) HT4.out hst HT5.out HT6.out (.inl st5) (.inl st6) st5).2⟩
        · have := (run_cut (z := []) (goodR_e HG.out) HT4.out hst HT5.out HT6.out (.inl st5) (.inr f6) st5).1
          exact absurd f6 this.not_fails
      · obtain rfl := HT4.out.unique HT5.out
        exact absurd f5 k1.not_fails
    · omega
  have her : er4 = 0 ∨ er4 = 5 := by rcases HC4.out with ⟨h, _⟩ | ⟨h, _⟩ <;> omega
  go_wp2_with fail
  (with_reducible refine (lives_true _).mono ?_)
  rintro e w9 ⟨rfl, hb9⟩
  have HB69 := Lib.hid hb9
  clear hb9
  rcases her with rfl | rfl
  · obtain ⟨rfl, rfl, rfl⟩ := key rfl
    clear key
    obtain rfl : m6 = m4 := by have e1 := HS6.out.1; have e2 := HS46.out.1; rw [flat_length] at e1 e2; omega
    go_wp2_with fail
    (with_reducible refine (same_true _ _ _ m6 _ _ u6 (HS46.out.below HB69.out) (HS6.out.below HB69.out)).mono ?_)
    rintro e w10 ⟨rfl, d, rfl⟩
    go_wp2
    go_ret
    have hz := HB6.out.trans (HB69.out.mono HB6.out.size)
    exact ⟨rfl, ⟨hz.os, hz.tape, hz.output, hz.size, hz.block⟩⟩
  · clear key
    go_wp2
    go_ret
    exact ⟨rfl, HB6.out.trans (HB69.out.mono HB6.out.size)⟩
end Go.Proofs.Ytkandepkojfblaa
