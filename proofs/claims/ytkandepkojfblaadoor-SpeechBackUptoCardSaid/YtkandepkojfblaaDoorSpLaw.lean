/- SpeechBack, SpeechOnly: the walks. -/
import Derived.Test.YtkandepkojfblaaDoorSpWrite
import Derived.Test.YtkandepkojfblaaDoorCopy
import Derived.Test.YtkandepkojfblaaDoorSame
namespace Go.Proofs.YtkandepkojfblaaDoor
open Go.RowKit

theorem readS_lit (w : World) (m : Int) (hm : w.cell? ⟨4, 0, none⟩ = some (.int .i64 m)) (K : ByteArray) (line : List UInt8) (hK : K = str line) (hll : line.length ≤ 9223372036854775807) :
    Calls Tryd.prog 13 #[.string K] w (ReadSPost w line) := by subst hK; exact readS_any w m hm line hll

set_option maxRecDepth 100000 in
set_option maxHeartbeats 3200000 in
theorem speaks_true (w : World) (hg : SpG w) : Calls Tryd.prog 12 #[] w fun e w' => e = .returned (.bool true) ∧ Below w.heap.size w w' := by
  obtain ⟨m, hm⟩ := hg.m
  have HM := Lib.hid hm
  clear hm hg
  go_enter Tryd.func12, Tryd.ntmps12
  go_wp2_with fail
  (with_reducible refine (readS_lit w m HM.out ⟨#[115, 116, 101, 112, 32, 97, 98, 32, 45, 55]⟩ [115, 116, 101, 112, 32, 97, 98, 32, 45, 55] rfl (by decide)).mono ?_)
  rintro e w1 ⟨v, rfl, hs, hf, hb⟩
  rw [speaks_read] at hs ⊢
  have HB := Lib.hid hb
  obtain ⟨A, cap, rfl, _, _⟩ := hs.form
  have hk : str [97, 98] = ⟨#[97, 98]⟩ := rfl
  have hk2 : str [] = ⟨#[]⟩ := rfl
  unfold reqV
  dsimp only
  rw [hk, hk2]
  clear hs hf hb hk hk2
  go_wp2_with fail
  go_ret
  exact ⟨rfl, HB.out.alloc HB.out.size _⟩

/-- What can be read lies in the heap. -/
theorem rd_size {w : World} {B n sz : Nat} {v : Value} {xs : List Value} (h : Rd w B sz v n xs) (hsz : 0 < sz) : Rd w w.heap.size sz v n xs := by
  obtain ⟨h1, A, cap, rfl, h2, h3, h4⟩ := h
  refine ⟨h1, A, cap, rfl, h2, h3, fun hn => ?_⟩
  obtain ⟨b, off, e, hb, hc⟩ := h4 hn
  have hpos : 0 < xs.length := by rw [h1]; exact Nat.mul_pos hn hsz
  exact ⟨b, off, e, World.block_lt_of_cell? w _ (hc 0 _ (List.getElem?_eq_getElem hpos)), hc⟩

set_option maxRecDepth 100000 in
set_option maxHeartbeats 3200000 in
theorem sreq_true (w : World) (B B' : Nat) (q : SReq) (va vb : Value) (ha : Rd w B 2 va q.cells.length (flat q.cells)) (hb : Rd w B' 2 vb q.cells.length (flat q.cells)) :
    Calls Tryd.prog 14 #[reqV q va, reqV q vb] w fun e w' => e = .returned (.bool true) ∧ Below w.heap.size w w' := by
  obtain ⟨A, cap, rfl, hc1, hc2⟩ := ha.form
  obtain ⟨A', cap', rfl, hc1', hc2'⟩ := hb.form
  have HA := Lib.hid ha
  have HB := Lib.hid hb
  unfold maxLen at hc2 hc2'
  clear ha hb
  unfold reqV
  go_enter Tryd.func14, Tryd.ntmps14
  have hba : Below w.heap.size w ((w.alloc (.cells #[.int .i64 q.verb, .string (str q.name), .string (str q.other), .int .i64 q.b, .int .i64 q.l, .int .i64 q.n, .slice A q.cells.length cap] 34)).alloc (.cells #[.int .i64 q.verb, .string (str q.name), .string (str q.other), .int .i64 q.b, .int .i64 q.l, .int .i64 q.n, .slice A' q.cells.length cap'] 34)) := ((Below.refl _ _).alloc (Nat.le_refl _) _).alloc (by rw [World.size_alloc]; omega) _
  have HBA := Lib.hid hba
  have HSM := Lib.hid (same_true _ _ _ _ _ _ q.cells ((rd_size HA.out (by decide)).below hba) ((rd_size HB.out (by decide)).below hba))
  clear hba
  go_wp2_with fail
  (with_reducible refine HSM.out.mono ?_)
  rintro e w1 ⟨rfl, d, rfl⟩
  go_wp2_with fail
  go_ret
  exact ⟨rfl, below_drewN HBA.out d⟩

theorem sreq_lit (w : World) (B B' : Nat) (q : SReq) (va vb X : Value) (hX : X = reqV q vb) (ha : Rd w B 2 va q.cells.length (flat q.cells)) (hb : Rd w B' 2 vb q.cells.length (flat q.cells)) :
    Calls Tryd.prog 14 #[reqV q va, X] w fun e w' => e = .returned (.bool true) ∧ Below w.heap.size w w' := by subst hX; exact sreq_true w B B' q va vb ha hb
theorem rd_zero (w : World) : Rd w 0 2 (.slice none 0 0) zeroR.cells.length (flat zeroR.cells) := by
  unfold zeroR Rd
  exact ⟨rfl, none, 0, rfl, Nat.le_refl _, Nat.zero_le _, fun h => absurd h (Nat.lt_irrefl 0)⟩
def TrueS (w : World) (e : Ending) (w' : World) : Prop := e = .returned (.bool true) ∧ Below w.heap.size w w'
theorem line_short {line : List UInt8} {q : SReq} (h : readS readR line = (q, 0)) : line.length ≤ 6000 := by
  unfold readS at h
  split at h
  · injection h with _ h; cases h
  · omega
theorem num_in {s : List UInt8} {n : Int} (h : numW s = some n) : -9223372036854775808 ≤ n ∧ n ≤ 9223372036854775807 := by
  have := (num_atoi h).2; omega
theorem cells_in : ∀ {ws : List (List UInt8)} {l : List (Int × Int)}, cellsW ws = some l → l.length = ws.length ∧ ∀ c ∈ l, (-9223372036854775808 ≤ c.1 ∧ c.1 ≤ 9223372036854775807) ∧ (-9223372036854775808 ≤ c.2 ∧ c.2 ≤ 9223372036854775807)
  | [], l, h => by simp only [cellsW] at h; injection h with h; subst h; simp
  | w :: ws, l, h => by
    rw [cellsW] at h
    cases hc : cellW w with
    | none => rw [hc] at h; cases h
    | some c =>
      rw [hc, Option.bind_some] at h
      cases hr : cellsW ws with
      | none => rw [hr] at h; cases h
      | some r =>
        rw [hr, Option.map_some] at h
        injection h with h
        subst h
        obtain ⟨h1, h2⟩ := cells_in hr
        refine ⟨by rw [List.length_cons, List.length_cons, h1], fun d hd => ?_⟩
        rw [List.mem_cons] at hd
        rcases hd with rfl | hd
        · unfold cellW at hc
          cases hp : cutC w with
          | none => rw [hp] at hc; cases hc
          | some p =>
            rw [hp, Option.bind_some] at hc
            cases ha : numW p.1 with
            | none => rw [ha] at hc; cases hc
            | some a =>
              rw [ha, Option.bind_some] at hc
              cases hb : numW p.2 with
              | none => rw [hb] at hc; cases hc
              | some b =>
                rw [hb, Option.map_some] at hc
                injection hc with hc
                subst hc
                exact ⟨num_in ha, num_in hb⟩
        · exact h2 d hd
theorem fit_plain {k : Int} {a o : List UInt8} {b l n : Int} {cs : List (Int × Int)} (hk : 0 ≤ k ∧ k ≤ 10) (ha : a.length ≤ 6000) (ho : o.length ≤ 6000) (hb : 0 ≤ b ∧ b < 512) (hl : 0 ≤ l ∧ l < 512) (hn : -9223372036854775808 ≤ n ∧ n ≤ 9223372036854775807)
    (hc : cs.length ≤ 281474976710656 ∧ ∀ c ∈ cs, (-9223372036854775808 ≤ c.1 ∧ c.1 ≤ 9223372036854775807) ∧ (-9223372036854775808 ≤ c.2 ∧ c.2 ≤ 9223372036854775807)) : SFit ⟨k, a, o, b, l, n, cs⟩ :=
  ⟨by dsimp only; omega, by dsimp only; omega, by dsimp only; omega, hn, hc.2, by dsimp only; omega, by dsimp only; omega, hc.1⟩
theorem read_in {r : List UInt8} (h : (readR r).2.2 = 0) : (0 ≤ (readR r).1 ∧ (readR r).1 < 512) ∧ (0 ≤ (readR r).2.1 ∧ (readR r).2.1 < 512) := by
  rcases read_cases r with ⟨b, l, h1, h2, h3⟩ | ⟨e, h1, h2⟩
  · rw [h1]; exact ⟨h2.1, h2.2.1⟩
  · rw [h1] at h; dsimp only at h; omega
theorem body_fit {k : Int} {ws : List (List UInt8)} {q : SReq} (hn : ws.length ≤ 6001) (hw : ∀ x ∈ ws, x.length ≤ 6000) (h : bodyW readR k ws = some q) : SFit q := by
  have hnil : ([] : List (Int × Int)).length ≤ 281474976710656 ∧ ∀ c ∈ ([] : List (Int × Int)), (-9223372036854775808 ≤ c.1 ∧ c.1 ≤ 9223372036854775807) ∧ (-9223372036854775808 ≤ c.2 ∧ c.2 ≤ 9223372036854775807) := ⟨by simp, fun c hc => by simp at hc⟩
  have h00 : (0 : Int) ≤ 0 ∧ (0 : Int) < 512 := by decide
  have h0n : (-9223372036854775808 : Int) ≤ 0 ∧ (0 : Int) ≤ 9223372036854775807 := by decide
  have hemp : ([] : List UInt8).length ≤ 6000 := by simp
  unfold bodyW at h
  split at h
  · split at h
    · rename_i a r
      split at h
      · rename_i hc
        injection h with h
        subst h
        have := read_in hc.2
        exact fit_plain (by decide) (hw a (by simp)) hemp this.1 this.2 h0n hnil
      · cases h
    · cases h
  split at h
  · split at h
    · rename_i a cs
      split at h
      · cases hl : cellsW cs with
        | none => rw [hl] at h; cases h
        | some l =>
          rw [hl, Option.map_some] at h
          injection h with h
          subst h
          obtain ⟨h1, h2⟩ := cells_in hl
          exact fit_plain (by decide) (hw a (by simp)) hemp h00 h00 h0n ⟨by rw [h1]; rw [List.length_cons] at hn; omega, h2⟩
      · cases h
    · cases h
  split at h
  · rename_i hk
    split at h
    · rename_i a
      split at h
      · injection h with h
        subst h
        exact fit_plain (by omega) (hw a (by simp)) hemp h00 h00 h0n hnil
      · cases h
    · cases h
  split at h
  · split at h
    · rename_i a m
      split at h
      · cases hl : numW m with
        | none => rw [hl] at h; cases h
        | some n =>
          rw [hl, Option.map_some] at h
          injection h with h
          subst h
          exact fit_plain (by decide) (hw a (by simp)) hemp h00 h00 (num_in hl) hnil
      · cases h
    · cases h
  split at h
  · split at h
    · rename_i a
      split at h
      · injection h with h
        subst h
        exact fit_plain (by decide) (hw a (by simp)) hemp h00 h00 h0n hnil
      · cases h
    · cases h
  split at h
  · split at h
    · rename_i a o
      split at h
      · injection h with h
        subst h
        exact fit_plain (by decide) (hw a (by simp)) (hw o (by simp)) h00 h00 h0n hnil
      · cases h
    · cases h
  split at h
  · split at h
    · rename_i a m
      split at h
      · cases hl : numW m with
        | none => rw [hl] at h; cases h
        | some n =>
          rw [hl, Option.map_some] at h
          injection h with h
          subst h
          exact fit_plain (by decide) (hw a (by simp)) hemp h00 h00 (num_in hl) hnil
      · cases h
    · cases h
  split at h
  · split at h
    · injection h with h
      subst h
      exact fit_plain (by decide) hemp hemp h00 h00 h0n hnil
    · cases h
  · cases h
theorem read_fit {line : List UInt8} {q : SReq} (h : readS readR line = (q, 0)) : SFit q := by
  have hl := line_short h
  obtain ⟨h1, h2⟩ := splitB_bound line
  unfold readS at h
  split at h
  · injection h with _ h; cases h
  · generalize splitB line = sp at h h1 h2
    cases sp with
    | nil => injection h with _ h; cases h
    | cons v ws =>
      dsimp only at h
      split at h
      · injection h with _ h; cases h
      · cases hb : bodyW readR (verbN v) ws with
        | none => rw [hb] at h; injection h with _ h; cases h
        | some q' =>
          rw [hb] at h
          injection h with h _
          subst h
          rw [List.length_cons] at h1
          exact body_fit (by omega) (fun x hx => Nat.le_trans (h2 x (List.mem_cons_of_mem _ hx)) hl) hb
theorem read_err {line : List UInt8} {q : SReq} {f : Int} (h : readS readR line = (q, f)) (hf : f ≠ 0) : q = zeroR := by
  unfold readS at h
  split at h
  · injection h with h _; exact h.symm
  · generalize splitB line = sp at h
    cases sp with
    | nil => injection h with h _; exact h.symm
    | cons v ws =>
      dsimp only at h
      split at h
      · injection h with h _; exact h.symm
      · cases hb : bodyW readR (verbN v) ws with
        | none => rw [hb] at h; injection h with h _; exact h.symm
        | some q' => rw [hb] at h; injection h with _ h; exact absurd h.symm hf
set_option maxRecDepth 100000 in
set_option maxHeartbeats 3200000 in
theorem speechOnly_any (w : World) (hg : SpG w) (s : List UInt8) (hl : s.length ≤ 9223372036854775807) :
    Calls Tryd.prog 6 #[.string (str s)] w (TrueS w) := by
  obtain ⟨m, hm⟩ := hg.m
  have HM := Lib.hid hm
  have HG := Lib.hid hg
  have HL := Lib.hid hl
  clear hm hg hl
  go_enter Tryd.func6, Tryd.ntmps6
  go_wp2_with fail
  (with_reducible refine (readS_any w m HM.out s HL.out).mono ?_)
  rintro e w1 ⟨v, rfl, hs, hf, hb⟩
  generalize hr : readS readR s = r at *
  have HR := Lib.hid hr
  obtain ⟨q, f⟩ := r
  dsimp only at *
  have HB := Lib.hid hb
  have HS := Lib.hid hs.rd
  obtain ⟨A, cap, rfl, _, _⟩ := hs.form
  have HG1 := Lib.hid (HG.out.below hb)
  clear hs hf hb hr
  by_cases h0 : f = 0
  · subst h0
    have HLB := Lib.hid (line_back readR txR txR_read HR.out)
    have hx : Blk (w1.alloc (.cells #[.int .i64 q.verb, .string (str q.name), .string (str q.other), .int .i64 q.b, .int .i64 q.l, .int .i64 q.n, .slice A q.cells.length cap] 34)) w1.heap.size 34 #[.int .i64 q.verb, .string (str q.name), .string (str q.other), .int .i64 q.b, .int .i64 q.l, .int .i64 q.n, .slice A q.cells.length cap] := Blk.new w1 _ _
    have hb2 : Below w1.heap.size w1 (w1.alloc (.cells #[.int .i64 q.verb, .string (str q.name), .string (str q.other), .int .i64 q.b, .int .i64 q.l, .int .i64 q.n, .slice A q.cells.length cap] 34)) := (Below.refl _ _).alloc (Nat.le_refl _) _
    have c0 := hx.cellS (i := 0) rfl
    have c1 := hx.cellS (i := 1) rfl
    have c2 := hx.cellS (i := 2) rfl
    have c3 := hx.cellS (i := 3) rfl
    have c4 := hx.cellS (i := 4) rfl
    have c5 := hx.cellS (i := 5) rfl
    have c6 := hx.cellS (i := 6) rfl
    have HWR := Lib.hid (writeS_any _ (HG1.out.below hb2) q (read_fit HR.out) _ _ (HS.out.below hb2))
    have HB2 : Hid (Below w.heap.size w (w1.alloc (.cells #[.int .i64 q.verb, .string (str q.name), .string (str q.other), .int .i64 q.b, .int .i64 q.l, .int .i64 q.n, .slice A q.cells.length cap] 34))) := HB.out.alloc HB.out.size _
    clear hx hb2
    unfold reqV at *
    go_wp2_with fail
    (with_reducible refine HWR.out.mono ?_)
    rintro e w2 ⟨t, g, rfl, hb2, hcase⟩
    have hgt : g = 0 ∧ t = s := by
      rcases hcase with ⟨h1, _, _, h2⟩ | ⟨_, _, h⟩
      · exact ⟨h1, by rw [h2]; exact HLB.out.2⟩
      · exact absurd ⟨HLB.out.1, by rw [HLB.out.2]; exact HR.out⟩ h
    obtain ⟨rfl, rfl⟩ := hgt
    have HB3 : Hid (Below w.heap.size w w2) := HB2.out.trans (hb2.mono HB2.out.size)
    clear hb2 hcase c0 c1 c2 c3 c4 c5 c6
    go_wp2_with fail
    (with_reducible refine (speaks_true _ (HG.out.below HB3.out)).mono ?_)
    rintro e w3 ⟨rfl, hb3⟩
    have HB4 : Hid (Below w.heap.size w w3) := HB3.out.trans (hb3.mono HB3.out.size)
    clear hb3
    generalize str t = S
    go_wp2_with fail
    go_ret
    exact ⟨rfl, HB4.out⟩
  · have HQ := Lib.hid (read_err HR.out h0)
    have hf' : (f != 0) = true := by simpa using h0
    have hx : Blk (w1.alloc (.cells #[.int .i64 q.verb, .string (str q.name), .string (str q.other), .int .i64 q.b, .int .i64 q.l, .int .i64 q.n, .slice A q.cells.length cap] 34)) w1.heap.size 34 #[.int .i64 q.verb, .string (str q.name), .string (str q.other), .int .i64 q.b, .int .i64 q.l, .int .i64 q.n, .slice A q.cells.length cap] := Blk.new w1 _ _
    have hb2 : Below w1.heap.size w1 (w1.alloc (.cells #[.int .i64 q.verb, .string (str q.name), .string (str q.other), .int .i64 q.b, .int .i64 q.l, .int .i64 q.n, .slice A q.cells.length cap] 34)) := (Below.refl _ _).alloc (Nat.le_refl _) _
    have HB2 : Hid (Below w.heap.size w (w1.alloc (.cells #[.int .i64 q.verb, .string (str q.name), .string (str q.other), .int .i64 q.b, .int .i64 q.l, .int .i64 q.n, .slice A q.cells.length cap] 34))) := HB.out.alloc HB.out.size _
    have c0 := hx.cellS (i := 0) rfl
    have c1 := hx.cellS (i := 1) rfl
    have c2 := hx.cellS (i := 2) rfl
    have c3 := hx.cellS (i := 3) rfl
    have c4 := hx.cellS (i := 4) rfl
    have c5 := hx.cellS (i := 5) rfl
    have c6 := hx.cellS (i := 6) rfl
    have HSA := Lib.hid (HS.out.below hb2)
    clear hx hb2 h0
    unfold reqV at *
    go_wp2_with fail
    (with_reducible refine (speaks_true _ (HG.out.below HB2.out)).mono ?_)
    rintro e w3 ⟨rfl, hb3⟩
    have HB3 : Hid (Below w.heap.size w w3) := HB2.out.trans (hb3.mono HB2.out.size)
    have d0 : w3.cell? ⟨w1.heap.size, 0, none⟩ = _ := (hb3.cell (p := ⟨w1.heap.size, 0, none⟩) (by rw [World.size_alloc]; exact Nat.lt_succ_self _)).trans c0
    have d1 : w3.cell? ⟨w1.heap.size, 1, none⟩ = _ := (hb3.cell (p := ⟨w1.heap.size, 1, none⟩) (by rw [World.size_alloc]; exact Nat.lt_succ_self _)).trans c1
    have d2 : w3.cell? ⟨w1.heap.size, 2, none⟩ = _ := (hb3.cell (p := ⟨w1.heap.size, 2, none⟩) (by rw [World.size_alloc]; exact Nat.lt_succ_self _)).trans c2
    have d3 : w3.cell? ⟨w1.heap.size, 3, none⟩ = _ := (hb3.cell (p := ⟨w1.heap.size, 3, none⟩) (by rw [World.size_alloc]; exact Nat.lt_succ_self _)).trans c3
    have d4 : w3.cell? ⟨w1.heap.size, 4, none⟩ = _ := (hb3.cell (p := ⟨w1.heap.size, 4, none⟩) (by rw [World.size_alloc]; exact Nat.lt_succ_self _)).trans c4
    have d5 : w3.cell? ⟨w1.heap.size, 5, none⟩ = _ := (hb3.cell (p := ⟨w1.heap.size, 5, none⟩) (by rw [World.size_alloc]; exact Nat.lt_succ_self _)).trans c5
    have d6 : w3.cell? ⟨w1.heap.size, 6, none⟩ = _ := (hb3.cell (p := ⟨w1.heap.size, 6, none⟩) (by rw [World.size_alloc]; exact Nat.lt_succ_self _)).trans c6
    have HSB := Lib.hid (HSA.out.keep (w' := w3) fun b hb => hb3.block b (by rw [World.size_alloc]; omega))
    clear hb3 c0 c1 c2 c3 c4 c5 c6
    go_wp2_with fail
    have hsx := sreq_lit w3 _ 0 q _ (.slice none 0 0) (.agg #[.int .i64 0, .string ⟨#[]⟩, .string ⟨#[]⟩, .int .i64 0, .int .i64 0, .int .i64 0, .slice none 0 0]) (by rw [HQ.out]; rfl) HSB.out (by rw [HQ.out]; exact rd_zero w3)
    unfold reqV at hsx
    (with_reducible refine hsx.mono ?_)
    rintro e w4 ⟨rfl, hb4⟩
    have HB4 : Hid (Below w.heap.size w w4) := HB3.out.trans (hb4.mono HB3.out.size)
    clear hb4
    generalize str s = S
    go_wp2_with fail
    go_ret
    exact ⟨rfl, HB4.out⟩
set_option maxRecDepth 100000 in
set_option maxHeartbeats 3200000 in
theorem speechBack_any (w : World) (hg : SpG w) (q : SReq) (hq : SFit q) (v : Value) (hv : Rd w w.heap.size 2 v q.cells.length (flat q.cells)) (hn : q.cells.length * 16 ≤ 140737488355328) :
    Calls Tryd.prog 5 #[reqV q v] w (TrueS w) := by
  obtain ⟨A, cap, rfl, _, _⟩ := hv.form
  have HG := Lib.hid hg
  have HQ := Lib.hid hq
  have HV := Lib.hid hv
  have HN := Lib.hid hn
  clear hg hq hv hn
  have hb2 : Below w.heap.size w ((w.alloc (.cells #[.int .i64 q.verb, .string (str q.name), .string (str q.other), .int .i64 q.b, .int .i64 q.l, .int .i64 q.n, .slice A q.cells.length cap] 34)).alloc (.cells #[.int .i64 q.verb, .string (str q.name), .string (str q.other), .int .i64 q.b, .int .i64 q.l, .int .i64 q.n, .slice A q.cells.length cap] 34)) := ((Below.refl _ _).alloc (Nat.le_refl _) _).alloc (by rw [World.size_alloc]; omega) _
  have hc2 := Blk.new (w.alloc (.cells #[.int .i64 q.verb, .string (str q.name), .string (str q.other), .int .i64 q.b, .int .i64 q.l, .int .i64 q.n, .slice A q.cells.length cap] 34)) 34 #[.int .i64 q.verb, .string (str q.name), .string (str q.other), .int .i64 q.b, .int .i64 q.l, .int .i64 q.n, .slice A q.cells.length cap]
  rw [World.size_alloc] at hc2
  have hq2 : Blk ((w.alloc (.cells #[.int .i64 q.verb, .string (str q.name), .string (str q.other), .int .i64 q.b, .int .i64 q.l, .int .i64 q.n, .slice A q.cells.length cap] 34)).alloc (.cells #[.int .i64 q.verb, .string (str q.name), .string (str q.other), .int .i64 q.b, .int .i64 q.l, .int .i64 q.n, .slice A q.cells.length cap] 34)) w.heap.size 34 #[.int .i64 q.verb, .string (str q.name), .string (str q.other), .int .i64 q.b, .int .i64 q.l, .int .i64 q.n, .slice A q.cells.length cap] := (Blk.new w _ _).alloc _
  have HB2 := Lib.hid hb2
  have HC2 := Lib.hid hc2
  have HQ2 := Lib.hid hq2
  have HCO := Lib.hid (cells_any _ _ _ _ q.cells (HV.out.below hb2) HN.out)
  clear hb2 hc2 hq2
  unfold reqV
  go_enter Tryd.func5, Tryd.ntmps5
  go_wp2_with fail
  (with_reducible refine HCO.out.mono ?_)
  rintro e w3 ⟨v', rfl, hs3, hf3, hb3⟩
  have hc3 := HC2.out.mod (Mod.of_below_all hb3) (fun h => h)
  have hq3 := HQ2.out.mod (Mod.of_below_all hb3) (fun h => h)
  have hsz3 : w.heap.size + 1 < w3.heap.size := hc3.lt
  have f6 := hc3.frozen 6
  have g6 := hc3.cellS (i := 6) rfl
  have HB3 : Hid (Below w.heap.size w w3) := HB2.out.trans (hb3.mono HB2.out.size)
  have hv3 : Rd w3 w.heap.size 2 (.slice A q.cells.length cap) q.cells.length (flat q.cells) := HV.out.below HB3.out
  obtain ⟨A', cap', rfl, _, _⟩ := hs3.form
  have hne : sblk (.slice A' q.cells.length cap') ≠ some (w.heap.size + 1) := hs3.ne hc3 (by decide)
  have HS4 : Hid (Rd (w3.setCell ⟨w.heap.size + 1, 6, none⟩ (.slice A' q.cells.length cap')) w3.heap.size 2 (.slice A' q.cells.length cap') q.cells.length (flat q.cells)) := by
    have := (hs3.far (p := ⟨w.heap.size + 1, 6, none⟩) hne (.slice A' q.cells.length cap')).rd
    rwa [World.size_setCell] at this
  have hc4 := hc3.set 6 (.slice A' q.cells.length cap')
  have hq4 := hq3.far (p := ⟨w.heap.size + 1, 6, none⟩) (by show w.heap.size ≠ w.heap.size + 1; omega) (.slice A' q.cells.length cap')
  have HQ4 := Lib.hid hq4
  have HB4 : Hid (Below w.heap.size w (w3.setCell ⟨w.heap.size + 1, 6, none⟩ (.slice A' q.cells.length cap'))) := HB3.out.setCell (p := ⟨w.heap.size + 1, 6, none⟩) (Nat.le_succ _) _
  have HV4 := Lib.hid (HV.out.below HB4.out)
  have c0 := hc4.cellS (i := 0) rfl
  have c1 := hc4.cellS (i := 1) rfl
  have c2 := hc4.cellS (i := 2) rfl
  have c3 := hc4.cellS (i := 3) rfl
  have c4 := hc4.cellS (i := 4) rfl
  have c5 := hc4.cellS (i := 5) rfl
  have c6 := hc4.cellS (i := 6) rfl
  have HWR := Lib.hid (writeS_any _ (HG.out.below HB4.out) q HQ.out _ _ HS4.out)
  clear hs3 hf3 hb3 hc3 hq3 hc4 hq4 hv3 hne hsz3 HCO
  unfold reqV at HWR
  go_wp2_with fail
  (with_reducible refine HWR.out.mono ?_)
  rintro e w5 ⟨t, g, rfl, hb5, hcase⟩
  have HB5 : Hid (Below w.heap.size w w5) := HB4.out.trans (hb5.mono HB4.out.size)
  have hq5 := HQ4.out.mod (Mod.of_below_all hb5) (fun h => h)
  have HQ5 := Lib.hid hq5
  have HV5 := Lib.hid (HV.out.below HB5.out)
  have HG5 := Lib.hid (HG.out.below HB5.out)
  clear hb5 hq5 c0 c1 c2 c3 c4 c5 c6 f6 g6
  rcases hcase with ⟨rfl, h1, h2, h3⟩ | ⟨h1, rfl, h3⟩
  · have HRD := Lib.hid h2
    obtain ⟨m, hm⟩ := HG5.out.m
    have HM := Lib.hid hm
    clear h1 h2 h3 hm
    have HRE := Lib.hid (readS_any w5 m HM.out t (by have := line_short HRD.out; omega))
    go_wp2_with fail
    (with_reducible refine HRE.out.mono ?_)
    rintro e w6 ⟨v6, rfl, hs6, hf6, hb6⟩
    have HB6 : Hid (Below w.heap.size w w6) := HB5.out.trans (hb6.mono HB5.out.size)
    have hq6 := HQ5.out.mod (Mod.of_below_all hb6) (fun h => h)
    rw [HRD.out] at hs6 ⊢
    dsimp only at hs6 ⊢
    have HS6 := Lib.hid hs6.rd
    obtain ⟨A6, cap6, rfl, _, _⟩ := hs6.form
    have hr7 : Blk (w6.alloc (.cells #[.int .i64 q.verb, .string (str q.name), .string (str q.other), .int .i64 q.b, .int .i64 q.l, .int .i64 q.n, .slice A6 q.cells.length cap6] 34)) w6.heap.size 34 #[.int .i64 q.verb, .string (str q.name), .string (str q.other), .int .i64 q.b, .int .i64 q.l, .int .i64 q.n, .slice A6 q.cells.length cap6] := Blk.new w6 _ _
    have hb7 : Below w6.heap.size w6 (w6.alloc (.cells #[.int .i64 q.verb, .string (str q.name), .string (str q.other), .int .i64 q.b, .int .i64 q.l, .int .i64 q.n, .slice A6 q.cells.length cap6] 34)) := (Below.refl _ _).alloc (Nat.le_refl _) _
    have HQ7 := Lib.hid (hq6.mod (Mod.of_below_all hb7) (fun h => h))
    have HR7 := Lib.hid hr7
    have HB7 : Hid (Below w.heap.size w (w6.alloc (.cells #[.int .i64 q.verb, .string (str q.name), .string (str q.other), .int .i64 q.b, .int .i64 q.l, .int .i64 q.n, .slice A6 q.cells.length cap6] 34))) := HB6.out.alloc HB6.out.size _
    have HS7 := Lib.hid (HS6.out.below hb7)
    have HSP := Lib.hid (speaks_true _ (HG.out.below HB7.out))
    clear hs6 hf6 hb6 hq6 hr7 hb7
    unfold reqV
    go_wp2_with fail
    (with_reducible refine HSP.out.mono ?_)
    rintro e w8 ⟨rfl, hb8⟩
    have hq8 := HQ7.out.mod (Mod.of_below_all hb8) (fun h => h)
    have hr8 := HR7.out.mod (Mod.of_below_all hb8) (fun h => h)
    have HB8 : Hid (Below w.heap.size w w8) := HB7.out.trans (hb8.mono HB7.out.size)
    have c0 := hq8.cellS (i := 0) rfl
    have c1 := hq8.cellS (i := 1) rfl
    have c2 := hq8.cellS (i := 2) rfl
    have c3 := hq8.cellS (i := 3) rfl
    have c4 := hq8.cellS (i := 4) rfl
    have c5 := hq8.cellS (i := 5) rfl
    have c6 := hq8.cellS (i := 6) rfl
    have d0 := hr8.cellS (i := 0) rfl
    have d1 := hr8.cellS (i := 1) rfl
    have d2 := hr8.cellS (i := 2) rfl
    have d3 := hr8.cellS (i := 3) rfl
    have d4 := hr8.cellS (i := 4) rfl
    have d5 := hr8.cellS (i := 5) rfl
    have d6 := hr8.cellS (i := 6) rfl
    have hsx := sreq_true w8 _ _ q _ _ (HV.out.below HB8.out) (HS7.out.keep (w' := w8) fun b hb => hb8.block b (by rw [World.size_alloc]; omega))
    unfold reqV at hsx
    have HSX := Lib.hid hsx
    clear hq8 hr8 hb8 hsx
    go_wp2_with fail
    (with_reducible refine HSX.out.mono ?_)
    rintro e w9 ⟨rfl, hb9⟩
    have HB9 : Hid (Below w.heap.size w w9) := HB8.out.trans (hb9.mono HB8.out.size)
    clear hb9 c0 c1 c2 c3 c4 c5 c6 d0 d1 d2 d3 d4 d5 d6
    go_wp2_with fail
    go_ret
    exact ⟨rfl, HB9.out⟩
  · have hf' : (g != 0) = true := by simpa using h1
    have hstr : str [] = ⟨#[]⟩ := rfl
    rw [hstr]
    clear h1 h3 hstr
    have HSP := Lib.hid (speaks_true w5 HG5.out)
    go_wp2_with fail
    (with_reducible refine HSP.out.mono ?_)
    rintro e w6 ⟨rfl, hb6⟩
    have HB6 : Hid (Below w.heap.size w w6) := HB5.out.trans (hb6.mono HB5.out.size)
    clear hb6
    go_wp2_with fail
    go_ret
    exact ⟨rfl, HB6.out⟩
end Go.Proofs.YtkandepkojfblaaDoor
