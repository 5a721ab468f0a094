/- rule.Next: the walk. -/
import Derived.Test.YtkandepkojfblaaMapC
import Derived.Test.YtkandepkojfblaaSome
import Derived.Deep.DeepCutAuto
import Derived.Deep.RegionHeld3
import Derived.Outline
import Derived.RegionTactic
import Derived.ChangeAlike
namespace Go.Proofs.Ytkandepkojfblaa
open Go.RowKit

/-- Nearer to 0 than any cell that may be: one step more is still within. -/
def tight (c : Int × Int) : Prop := (-1099511627775 < c.1 ∧ c.1 < 1099511627775) ∧ (-1099511627775 < c.2 ∧ c.2 < 1099511627775)
theorem tight_ok {c : Int × Int} (h : tight c) : okC c := by unfold tight at h; unfold okC okZ; omega

def NextPost (w : World) (b lv : Int) (l : List (Int × Int)) (e : Ending) (w' : World) : Prop :=
  ∃ t L, Tid l t ∧ L.Nodup ∧ (∀ c, c ∈ L ↔ liveC b lv t c = true) ∧ L.length ≤ 9 * t.length ∧ Below w.heap.size w w' ∧
    ((L.length ≤ 4096 ∧ ∃ A m t', e = .returned (.tuple #[.slice A m m, .int .i64 0]) ∧ Tid L t' ∧ Sl w' 41 2 (.slice A m m) m (flat t') ∧ (∀ b, sblk (.slice A m m) = some b → w.heap.size ≤ b)) ∨
      (4096 < L.length ∧ e = .returned (.tuple #[.slice none 0 0, .int .i64 5])))

theorem goodR_b {b l : Int} (h : goodR b l) : 0 ≤ b ∧ b < 512 := h.1
theorem goodR_l {b l : Int} (h : goodR b l) : 0 ≤ l ∧ l < 512 := h.2.1
theorem goodR_e {b l : Int} (h : goodR b l) : b % 2 = 0 := h.2.2
theorem cellV_inj {a b : Int × Int} (h : cellV a = cellV b) : a = b := by
  unfold cellV at h
  injection h with h
  injection h with h
  injection h with e1 h
  injection h with e2 _
  injection e1 with _ e1
  injection e2 with _ e2
  exact Prod.ext e1 e2
theorem left_self (left : Lit → Bool) (x : Int × Int) : (left (kc x) && !(kc x).sameKey (kc x)) = false := by rw [WideAt.sameKey_self (isKey_kc x)]; simp
theorem left_cases {left : Lit → Bool} {c x : Int × Int} (hc : inC c) (hx : inC x) (h : (left (kc c) && !(kc c).sameKey (kc x)) = false) : left (kc c) = false ∨ c = x := by
  cases hl : left (kc c)
  · exact .inl rfl
  · rw [hl] at h
    simp at h
    exact .inr (kc_inj hc hx (WideAt.sameKey_eq h))
theorem left_mono {left : Lit → Bool} {c x : Int × Int} (h : left (kc c) = false) : (left (kc c) && !(kc c).sameKey (kc x)) = false := by rw [h]; rfl
theorem mod_grown {w w' : World} {v : Value} (h : Mod (fun q => sblk v = some q) w w') : w.grownBy w' (sblk v) := ⟨h.os, h.tape, h.output, h.size, fun k hk hn => h.block k hk (fun e => hn e.symm)⟩

set_option maxRecDepth 100000 in
set_option maxHeartbeats 3200000 in
theorem next_any (w : World) (b lv : Int) (hg : goodR b lv) (n : Nat) (v : Value) (l : List (Int × Int)) (h : Rd w w.heap.size 2 v n (flat l)) (hn : n ≤ 4096) (hok : ∀ c ∈ l, tight c) :
    Calls Try.prog 16 #[.agg #[.int .i64 b, .int .i64 lv], v] w (NextPost w b lv l) := by
  have H := Lib.hid h
  have HG := Lib.hid hg
  have HOK := Lib.hid hok
  have HLEN : Hid (l.length = n) := (h.pairs).1
  obtain ⟨A, cap, rfl, hc1, hc2⟩ := h.form
  unfold maxLen at hc2
  clear h hg hok
  have hmm := @run_makeMap Try.prog
  go_enter Try.func16, Try.ntmps16
  go_wp2_with fail
  (with_reducible refine (good_true _ b lv HG.out).mono ?_)
  rintro e w1 ⟨rfl, hb1⟩
  have hz1 := hb1.size
  rw [World.size_alloc] at hb1 hz1
  have HB1 : Hid (Below w.heap.size w w1) := ((Below.refl _ _).alloc (Nat.le_refl _) _).trans (hb1.mono (by omega))
  have HR1 : Hid (Blk w1 w.heap.size 23 #[.int .i64 b, .int .i64 lv]) := (hb1.block _ (by omega)).trans (Blk.new w _ _)
  have HZ1 := Lib.hid hz1
  clear hb1 hz1
  go_wp2_with fail
  (with_reducible refine (tidy_ok _ w.heap.size n _ l (H.out.below HB1.out) (Nat.le_trans (Nat.le_succ _) HZ1.out) hn (fun c hc => tight_ok (HOK.out c hc))).mono ?_)
  rintro e w2 ⟨A1, m, t, rfl, ht, hs2, hf2, hb2⟩
  have HT := Lib.hid ht
  have HS2 := Lib.hid hs2
  have HB2 : Hid (Below w.heap.size w w2) := HB1.out.trans (hb2.mono HB1.out.size)
  have HR2 : Hid (Blk w2 w.heap.size 23 #[.int .i64 b, .int .i64 lv]) := (hb2.block _ (by have := HZ1.out; omega)).trans HR1.out
  have HZ2 : Hid (w.heap.size + 1 ≤ w2.heap.size) := Nat.le_trans HZ1.out hb2.size
  have hlen : t.length = m := by have e1 := hs2.1; rw [flat_length] at e1; omega
  have HLT := Lib.hid hlen
  have hm : m ≤ 4096 := by
    have e2 := tid_length ht
    have e3 := HLEN.out
    omega
  have HTI : Hid (∀ c ∈ t, tight c) := fun c hc => HOK.out c ((tid_mem HT.out c).1 hc)
  clear ht hs2 hf2 hb2 hlen HB1 HR1 HZ1 H
  go_wp2_with fail
  go_loopw [35] (fun kv wx => ∃ k : Nat, k ≤ m ∧ kv = .int .i64 k ∧ MapN wx w2.heap.size (9 * k) (incs (t.take k)) ∧ MapS wx (w2.heap.size + 1) k (t.take k) ∧ Below w2.heap.size w2 wx) (fun kv _ => m - (intOf kv).toNat)
  case atStart =>
    refine ⟨0, Nat.zero_le _, rfl, (MapN.made w2).alloc _, ?_, ((Below.refl _ _).alloc (Nat.le_refl _) _).alloc (by simp) _⟩
    have := MapS.made (w2.alloc (.map #[] 0))
    rwa [World.size_alloc] at this
  case round =>
    obtain ⟨k, hk, rfl, hmn, hms, hbw⟩ := hrel
    by_cases hlt : k < m
    · --C1
      obtain ⟨b2, off, cp, he, _, _, _, _, _⟩ := HS2.out.at (by omega)
      injection he with he1 he2 he3
      subst he1 he3
      have hrow := HS2.out.rowC.1
      have c1 := hrow.cell1 hlt
      have c2 := hrow.cell2 hlt
      have hblt : b2 < w2.heap.size := hrow.lt
      have hget : t[k]? = some t[k]! := by rw [List.getElem!_eq_getElem?_getD, List.getElem?_eq_getElem (by rw [HLT.out]; exact hlt)]; rfl
      have hti := HTI.out t[k]! (List.mem_of_getElem? hget)
      have htk : t.take (k + 1) = t.take k ++ [t[k]!] := by rw [List.take_add_one, hget]; rfl
      rw [← hbw.cell (p := ⟨b2, off + k * 2, none⟩) hblt] at c1
      rw [← hbw.cell (p := ⟨b2, off + k * 2 + 1, none⟩) hblt] at c2
      generalize t[k]! = c at c1 c2 hti htk
      obtain ⟨x, y⟩ := c
      have hin : inC (x, y) := by unfold tight at hti; unfold inC; dsimp only at hti ⊢; omega
      obtain ⟨w3, hput, hms3, hmod3⟩ := (hms.alloc (.cells #[.int .i64 x, .int .i64 y] 41)).put hin (by unfold maxLen; omega)
      have hput' : (Instr.mapUpdate 52 (.map (some (w2.heap.size + 1))) (.agg #[.int .i64 x, .int .i64 y]) (.agg #[])).run Try.prog (wr.alloc (.cells #[.int .i64 x, .int .i64 y] 41)) = .ok () w3 := hput
      have hbwz := hbw.size
      have hmsl := hms.lt
      have HMS3 : Hid (MapS w3 (w2.heap.size + 1) (k + 1) (t.take (k + 1))) := by show MapS _ _ _ _; rw [htk]; exact hms3
      have HMN3 : Hid (MapN w3 w2.heap.size (9 * k) (incs (t.take k))) := (hmn.alloc (.cells #[.int .i64 x, .int .i64 y] 41)).of_block (hmod3.block _ (by rw [World.size_alloc]; omega) (by omega))
      have HT3 : Hid (Blk w3 wr.heap.size 41 #[.int .i64 x, .int .i64 y]) := (hmod3.block _ (by rw [World.size_alloc]; omega) (by omega)).trans (Blk.new wr _ _)
      have HB3 : Hid (Below w2.heap.size w2 w3) := (hbw.alloc hbwz _).trans (hmod3.below (by rw [World.size_alloc]; omega) (fun b hb e => by omega))
      have HTK := Lib.hid htk
      have HTI1 := Lib.hid hti
      have HMZ : Hid (w2.heap.size + 1 < wr.heap.size) := hmsl
      clear hput hms3 hmod3 hmn hms hbw hti htk hget hrow hin hbwz hmsl
      go_wp2_with fail
      clear hput' c1 c2
      generalize wr.heap.size = T at *
      go_loopw [12] (fun dv wy => ∃ j : Nat, j ≤ 3 ∧ dv = .int .i64 ((j : Int) - 1) ∧ MapN wy w2.heap.size (9 * k + 3 * j) (incs (t.take k) ++ incC (x, y) (3 * j)) ∧ MapS wy (w2.heap.size + 1) (k + 1) (t.take (k + 1)) ∧ Blk wy T 41 #[.int .i64 x, .int .i64 y] ∧ Below w2.heap.size w2 wy) (fun dv _ => (2 - intOf dv).toNat)
      case atStart => exact ⟨0, Nat.zero_le _, rfl, by rw [Nat.mul_zero, incC_zero, List.append_nil]; exact HMN3.out, HMS3.out, HT3.out, HB3.out⟩
      case round =>
        obtain ⟨j, hj, rfl, hmn, hms, hbt, hbw⟩ := hrel
        have HMN := Lib.hid hmn
        have HMS := Lib.hid hms
        have HBT := Lib.hid hbt
        have HBW := Lib.hid hbw
        clear hmn hms hbt hbw
        by_cases hjt : j < 3
        · --C2
          have hjb : decide ((j : Int) - 1 ≤ 1) = true := decide_eq_true (by omega)
          go_wp2_with fail
          clear hjb
          go_loopw [13] (fun dv wz => ∃ i : Nat, i ≤ 3 ∧ dv = .int .i64 ((i : Int) - 1) ∧ MapN wz w2.heap.size (9 * k + (3 * j + i)) (incs (t.take k) ++ incC (x, y) (3 * j + i)) ∧ MapS wz (w2.heap.size + 1) (k + 1) (t.take (k + 1)) ∧ Blk wz T 41 #[.int .i64 x, .int .i64 y] ∧ Below w2.heap.size w2 wz) (fun dv _ => (2 - intOf dv).toNat)
          case atStart => exact ⟨0, Nat.zero_le _, rfl, HMN.out, HMS.out, HBT.out, HBW.out⟩
          case round =>
            clear HMN HMS HBT HBW
            obtain ⟨i, hi, rfl, hmn, hms, hbt, hbw⟩ := hrel
            by_cases hit : i < 3
            · --C3
              have HMN := Lib.hid hmn
              have HMS := Lib.hid hms
              have HBT := Lib.hid hbt
              have HBW := Lib.hid hbw
              have hinc : (incAt (x, y) (3 * j + i)).1 = (x + ((i : Int) - 1), y + ((j : Int) - 1)) := by
                have e1 : (3 * j + i) % 3 = i := by omega
                have e2 : (3 * j + i) / 3 = j := by omega
                unfold incAt; rw [e1, e2]; apply Prod.ext <;> dsimp only <;> omega
              have hd4 : (incAt (x, y) (3 * j + i)).2 = if 3 * j + i = 4 then 0 else 1 := rfl
              have hij : 3 * j + i = 4 ↔ ((i : Int) - 1 = 0 ∧ (j : Int) - 1 = 0) := by omega
              have hlow : -1 ≤ (i : Int) - 1 ∧ (i : Int) - 1 ≤ 1 ∧ -1 ≤ (j : Int) - 1 ∧ (j : Int) - 1 ≤ 1 := by omega
              clear hmn hms hbt hbw
              generalize hdx : (i : Int) - 1 = dx at hinc hij hlow
              generalize hdy : (j : Int) - 1 = dy at hinc hij hlow
              obtain ⟨l1, l2, l3, l4⟩ := hlow
              have HDX := Lib.hid hdx
              have HDY := Lib.hid hdy
              have HINC := Lib.hid hinc
              generalize hd : (incAt (x, y) (3 * j + i)).2 = d at hd4
              have HD := Lib.hid hd
              clear hdx hdy hinc hd
              obtain ⟨B, hB, hdB⟩ : ∃ B : Bool, (B = (dx != 0 || dy != 0)) ∧ d = if B then 1 else 0 := ⟨_, rfl, by
                rw [hd4]
                by_cases e0 : dx = 0
                · by_cases e1 : dy = 0
                  · rw [if_pos (hij.2 ⟨e0, e1⟩), e0, e1]; rfl
                  · rw [if_neg (fun h => e1 (hij.1 h).2), if_pos (by rw [Bool.or_eq_true, bne_iff_ne, bne_iff_ne]; exact .inr e1)]
                · rw [if_neg (fun h => e0 (hij.1 h).1), if_pos (by rw [Bool.or_eq_true, bne_iff_ne, bne_iff_ne]; exact .inl e0)]⟩
              have HBB := Lib.hid hB
              have HDB := Lib.hid hdB
              clear hB hdB hd4 hij
              go_upto_region 19 with fail
              go_cut [55] (fun bv wq => bv = .bool B ∧ wq = wr)
              case first =>
                cases e0 : (dx != 0)
                · cases e1 : (dy != 0)
                  · have hb : B = false := by rw [HBB.out, e0, e1]; rfl
                    have HB1 := Lib.hid hb
                    clear hb
                    go_wp2_with fail
                    go_meet
                    exact ⟨by rw [HB1.out], rfl⟩
                  · have hb : B = true := by rw [HBB.out, e0, e1]; rfl
                    have HB1 := Lib.hid hb
                    clear hb
                    go_wp2_with fail
                    go_meet
                    exact ⟨by rw [HB1.out], rfl⟩
                · have hb : B = true := by rw [HBB.out, e0]; rfl
                  have HB1 := Lib.hid hb
                  clear hb
                  go_wp2_with fail
                  go_meet
                  exact ⟨by rw [HB1.out], rfl⟩
              case rest =>
              obtain ⟨rfl, rfl⟩ := hcut
              go_upto_if 55 with fail
              go_cut [14] (fun dv wq => dv = .int .i64 d ∧ wq = wc)
              case first =>
                cases B
                · go_wp2_with fail
                  go_meet
                  exact ⟨by rw [HDB.out]; rfl, rfl⟩
                · go_wp2_with fail
                  go_meet
                  exact ⟨by rw [HDB.out]; rfl, rfl⟩
              case rest =>
              obtain ⟨rfl, rfl⟩ := hcut
              go_upto_region 21 with fail
              have t1 : wc.cell? ⟨T, 0, none⟩ = some (.int .i64 x) := HBT.out.cellS rfl
              have t2 : wc.cell? ⟨T, 1, none⟩ = some (.int .i64 y) := HBT.out.cellS rfl
              have hin2 : inC (x + dx, y + dy) := by unfold tight at HTI1; have := HTI1.out; unfold inC; dsimp only at this ⊢; omega
              obtain ⟨b1, b2'⟩ := sumAt_bd (small_append (small_incs (t.take k)) (small_incC (x, y) (3 * j + i))) (x + dx, y + dy)
              have hlen : (incs (t.take k) ++ incC (x, y) (3 * j + i)).length ≤ 100000 := by
                rw [List.length_append, incs_length, incC_length, List.length_take]; omega
              obtain ⟨st, w4, q1, q2, q3, q4⟩ := (HMN.out.of_block (w' := wc.drew) rfl).add hin2 (by unfold maxLen; omega) (WalkArith.wf_i64 (by omega))
              have hd01 : 0 ≤ d ∧ d ≤ 1 := by rw [HDB.out]; cases B <;> simp
              obtain ⟨w5, q5, hmn5, hmod5⟩ := q4 d (WalkArith.wf_i64 (by omega))
              generalize sumAt (incs (t.take k) ++ incC (x, y) (3 * j + i)) (x + dx, y + dy) = s at q1 q2 q3 q5 b1 b2'
              have hs1 : s ≤ 100000 := by omega
              unfold cellV at q1 q2 q3
              dsimp only at q1 q2 q3
              obtain ⟨d1, d2⟩ := hd01
              clear b2' hlen
              have hT := HTI1.out
              unfold tight at hT
              dsimp only at hT
              obtain ⟨⟨x1, x2⟩, y1, y2⟩ := hT
              have r1 := IntWalk.i64_in (x + dx) (by omega)
              have r2 := IntWalk.i64_in (y + dy) (by omega)
              have r3 := IntWalk.i64_in (s + d) (by omega)
              go_region
              have hz : w2.heap.size + 1 ≠ w2.heap.size := by omega
              have hTz : w2.heap.size + 1 < T := HMZ.out
              have HMS5 : Hid (MapS w5 (w2.heap.size + 1) (k + 1) (t.take (k + 1))) := HMS.out.of_block (hmod5.block _ HMS.out.lt hz)
              have HBT5 : Hid (Blk w5 T 41 #[.int .i64 x, .int .i64 y]) := (hmod5.block _ HBT.out.lt (by omega)).trans HBT.out
              have HBW5 : Hid (Below w2.heap.size w2 w5) := HBW.out.trans (Below.trans (a := wc) (b := wc.drew) ((Below.refl _ _).drew) (hmod5.below HBW.out.size (fun b hb e => by omega)))
              have HMN5 : Hid (MapN w5 w2.heap.size (9 * k + (3 * j + (i + 1))) (incs (t.take k) ++ incC (x, y) (3 * j + (i + 1)))) := by
                show MapN _ _ _ _
                rw [show 3 * j + (i + 1) = 3 * j + i + 1 by omega, incC_succ, ← List.append_assoc, show incAt (x, y) (3 * j + i) = ((x + dx, y + dy), d) from Prod.ext HINC.out HD.out]
                exact hmn5
              clear q1 q2 q3 q4 q5 hmn5 hmod5 r1 r2 r3 t1 t2 hin2 HBB HDB HD HINC
              have hdx := HDX.out
              have hdy := HDY.out
              clear HDX HDY
              subst hdx hdy
              go_wp2_with fail
              go_roundw
              case rel => exact ⟨i + 1, by omega, by go_num, HMN5.out, HMS5.out, HBT5.out, HBW5.out⟩
              case measure => simp [intOf]; omega
            · obtain rfl : i = 3 := by omega
              have HMN := Lib.hid hmn
              have HMS := Lib.hid hms
              have HBT := Lib.hid hbt
              have HBW := Lib.hid hbw
              clear hmn hms hbt hbw
              go_wp2_with fail
              go_roundw
              case rel => exact ⟨j + 1, by omega, by go_num, HMN.out, HMS.out, HBT.out, HBW.out⟩
              case measure => simp [intOf]; omega
        · obtain rfl : j = 3 := by omega
          go_wp2_with fail
          go_roundw
          case rel =>
            refine ⟨k + 1, by omega, by go_num, ?_, HMS.out, HBW.out⟩
            rw [HTK.out, incs_snoc]
            exact HMN.out
          case measure => simp [intOf]; omega
    · --C9
      obtain rfl : k = m := by omega
      rw [List.take_of_length_le (by rw [HLT.out]; exact Nat.le_refl _)] at hmn hms
      obtain ⟨D, hown, hh, ha⟩ := hmn
      have hcap := hown.size_le
      have HH := Lib.hid hh
      have HA := Lib.hid ha
      have HCAP := Lib.hid hcap
      have HMS := Lib.hid hms
      have HBW := Lib.hid hbw
      have HNIL := Lib.hid (Sl.nil wr 41 2)
      have hsz := hms.lt
      have hlo := hbw.size
      have HOWN := Lib.hid hown
      clear hh ha hcap hms hbw hlt hmm hown
      go_wp2_with (at_range; refine wpList_range_own _ rfl _ 51 rfl 41 3 Try.lawCell Try.underlying51 (plainElem Try.prog 3) w2.heap.size (9 * k) D rfl HOWN.out ?_; intro w0 hrg0 hg0 hs0)
      go_frame
      have hB0 : Below w2.heap.size w2 w0 := HBW.out.trans ⟨hg0.os, hg0.tape, hg0.output, hg0.size, fun q hq => hg0.block q (by omega) (by simp)⟩
      have hms0 : MapS w0 (w2.heap.size + 1) k t := HMS.out.of_block (hg0.block _ HMS.out.lt (by simp))
      have hsl0 : Sl w0 41 2 (.slice none 0 0) 0 [] := Sl.nil _ _ _
      have HRG0 := Lib.hid hrg0
      have HB0 := Lib.hid hB0
      have HMS0 := Lib.hid hms0
      have HSL0 := Lib.hid hsl0
      have HR0 : Hid (w2.heap.size + 1 < wr.heap.size) := hsz
      clear hrg0 hg0 hs0 hB0 hms0 hsl0 HOWN HMS HBW HNIL hsz hlo
      generalize wr.heap.size = R at *
      go_loopw [15] (fun ov wx => ∃ (left : Lit → Bool) (cn : Nat) (L : List (Int × Int)), wx.ranges Try.prog 41 (plainElem Try.prog 3) w2.heap.size R (9 * k) D left cn ∧ Sl wx 41 2 ov L.length (flat L) ∧ (∀ q, sblk ov = some q → R < q) ∧ L.Nodup ∧
        (∀ c, c ∈ L ↔ (inC c ∧ Maps.has D (kc c) = true ∧ left (kc c) = false ∧ liveC b lv t c = true)) ∧ L.length + cn ≤ 9 * k ∧ MapS wx (w2.heap.size + 1) k t ∧ Below w2.heap.size w2 wx) (fun _ wx => wx.rangeLeft w2.heap.size R)
      case atStart => exact ⟨_, _, [], HRG0.out, HSL0.out, fun q hq => by simp [sblk] at hq, List.nodup_nil, fun c => ⟨fun h => by simp at h, fun ⟨_, h1, h2, _⟩ => by rw [h1] at h2; cases h2⟩, by simpa using HCAP.out, HMS0.out, HB0.out⟩
      case round =>
        obtain ⟨left, cn, L, hrg, hsl, hfr, hnd, hL, hcn, hms, hbw⟩ := hrel
        have HRG := Lib.hid hrg
        have HSL := Lib.hid hsl
        have HFR := Lib.hid hfr
        have HND := Lib.hid hnd
        have HL := Lib.hid hL
        have HMS := Lib.hid hms
        have HBW := Lib.hid hbw
        clear hrg hsl hfr hnd hL hms hbw HRG0 HB0 HMS0 HSL0
        go_wp2_with (at_next; refine wpList_next_ranges _ rfl _ rfl 41 Try.lawCell (plainElem Try.prog 3) cellV (Value.int .i64) (fun key kl hk => by obtain ⟨c, _, e, _⟩ := keyOf_cell_inv hk; exact ⟨c, e⟩) (fun v y hv => by obtain ⟨c, e, _⟩ := plainElem_int_inv Try.underlying3 hv; exact ⟨c, e⟩) w2.heap.size R (9 * k) D left cn rfl HRG.out ?_ ?_)
        · --C10
          intro hc0 hl0
          have hmem : ∀ c, c ∈ L ↔ liveC b lv t c = true := fun c => by
            rw [HL.out c]
            constructor
            · exact fun h => h.2.2.2
            · intro h
              obtain ⟨s, hs, hcl⟩ := live_close (goodR_e HG.out) h
              have hti := HTI.out s hs
              have hin : inC c := by unfold tight at hti; unfold close at hcl; unfold inC; omega
              exact ⟨hin, by rw [HH.out c hin]; exact (hasAt_incs t c).2 ⟨s, hs, hcl⟩, hl0 _, h⟩
          have HMEM := Lib.hid hmem
          have hokL : ∀ c ∈ L, okC c := fun c hc => by
            obtain ⟨s, hs, hcl⟩ := live_close (goodR_e HG.out) ((hmem c).1 hc)
            have hti := HTI.out s hs
            unfold tight at hti; unfold close at hcl; unfold okC okZ; omega
          have HOKL := Lib.hid hokL
          have hlen9 : L.length ≤ 9 * k := by omega
          have HLEN9 : Hid (L.length ≤ 9 * t.length) := by show _ ≤ _; rw [HLT.out]; exact hlen9
          have HBW2 : Hid (Below w.heap.size w wr) := HB2.out.trans (HBW.out.mono HB2.out.size)
          clear hmem hokL hc0 hl0
          obtain ⟨Ao, capo, rfl, hq1, hq2⟩ := HSL.out.form
          by_cases hfull : 4096 < L.length
          · go_wp2_with fail
            (with_reducible refine (tidy_full _ _ _ _ hfull (by unfold maxLen; omega)).mono ?_)
            rintro e w' ⟨rfl, rfl⟩
            go_wp2
            go_ret2
            exact ⟨t, L, HT.out, HND.out, HMEM.out, HLEN9.out, HBW2.out, .inr ⟨hfull, rfl⟩⟩
          · go_wp2_with fail
            (with_reducible refine (tidy_ok _ wr.heap.size _ _ L HSL.out.rd (Nat.le_refl _) (by omega) HOKL.out).mono ?_)
            rintro e w9 ⟨A9, m9, t9, rfl, ht9, hs9, hf9, hb9⟩
            have HT9 := Lib.hid ht9
            have HS9 := Lib.hid hs9
            have HF9 := Lib.hid hf9
            have HB9 := Lib.hid hb9
            clear ht9 hs9 hf9 hb9
            go_wp2
            go_ret2
            exact ⟨t, L, HT.out, HND.out, HMEM.out, HLEN9.out, HBW2.out.trans (HB9.out.mono HBW2.out.size), .inl ⟨by omega, A9, m9, t9, rfl, HT9.out, HS9.out, fun q hq => Nat.le_trans HBW2.out.size (HF9.out q hq)⟩⟩
        · --C11
          intro p0 q0 c kl yd ys w1 cnt1 hkey hlk hv hat hrg1 hlt hg1 hs1 hen
          generalize hx0 : (p0, q0) = x at hkey hen
          clear hx0
          obtain ⟨x0, hx, ex, rfl⟩ := keyOf_cell_inv hkey
          have := cellV_inj ex
          subst this
          obtain ⟨c0, ec, ey, hwc⟩ := plainElem_int_inv Try.underlying3 hv
          obtain ⟨ey1, ey2⟩ := Prod.mk.inj ey
          subst ey1
          injection ec with _ ec
          subst ec
          have hhas : Maps.has D (kc x) = true := Maps.has_true_of_atKey hat
          have hcc : c = (cnt t x : Nat) := by
            have e1 := hat (.lit (.int .i64 0))
            rw [HA.out x hx] at e1
            rw [← sumAt_incs]
            exact (lit_int e1).symm
          subst hcc
          have hc8 : cnt t x ≤ 8 := cnt_le (tid_nodup HT.out) x
          have hB1 : Below w2.heap.size w2 w1 := HBW.out.trans ⟨hg1.os, hg1.tape, hg1.output, hg1.size, fun q hq => hg1.block q (by have := HBW.out.size; omega) (by have := HR0.out; simp; omega)⟩
          have hms1 : MapS w1 (w2.heap.size + 1) k t := HMS.out.of_block (hg1.block _ HMS.out.lt (by have := HR0.out; simp; omega))
          have hsl1 : Sl w1 41 2 u15 L.length (flat L) := HSL.out.of_blk fun q hq => hg1.block q (HSL.out.lt hq).1 (by have := HFR.out q hq; simp; omega)
          obtain ⟨p, q⟩ := x
          have hlook : (Instr.lookup 52 (.map (some (w2.heap.size + 1))) (.agg #[.int .i64 p, .int .i64 q]) true).run Try.prog (w1.alloc (.cells #[.int .i64 p, .int .i64 q] 41)) = .ok (.tuple #[.agg #[], .bool (decide ((p, q) ∈ t))]) _ := (hms1.alloc _).look hx
          have hen' : (Instr.entry (.pointer (some ⟨R, 0, none⟩))).run Try.prog w1 = .ok (.tuple #[.agg #[.int .i64 p, .int .i64 q], .int .i64 (cnt t (p, q) : Nat)]) w1 := hen
          have hlive : liveC b lv t (p, q) = bitB (if decide ((p, q) ∈ t) then lv else b) (cnt t (p, q)) := rfl
          generalize decide ((p, q) ∈ t) = al at hlook hlive
          generalize hcn' : cnt t (p, q) = cn8 at hc8 hen' hlive
          have hrb : Blk w1 w.heap.size 23 #[.int .i64 b, .int .i64 lv] := (hB1.block _ (by have := HZ2.out; omega)).trans HR2.out
          have r0 : w1.cell? ⟨w.heap.size, 0, none⟩ = some (.int .i64 b) := hrb.cellS rfl
          have r1 : w1.cell? ⟨w.heap.size, 1, none⟩ = some (.int .i64 lv) := hrb.cellS rfl
          have rz : w.heap.size < w1.heap.size := hrb.lt
          have HLIVE := Lib.hid hlive
          have HRG1 := Lib.hid hrg1
          have HB1 := Lib.hid hB1
          have HMS1 := Lib.hid hms1
          have HSL1 := Lib.hid hsl1
          have HLK := Lib.hid hlk
          have HHAS := Lib.hid hhas
          have HX := Lib.hid hx
          have HS1 := Lib.hid hs1
          clear hen hlive hrg1 hB1 hms1 hsl1 hlk hhas hx hs1 hkey ex hv hat hwc hg1 hrb hcn' ey ey2
          go_wp2_with fail
          (with_reducible refine (lives_any _ b lv (goodR_b HG.out) (goodR_l HG.out) al cn8 hc8).mono ?_)
          rintro e w3 ⟨rfl, hb3⟩
          have hz3 := hb3.size
          rw [World.size_alloc, World.size_alloc] at hz3
          have hB13 : Below w1.heap.size w1 w3 := (((Below.refl _ _).alloc (Nat.le_refl _) _).alloc (by simp) _).trans (hb3.mono (by simp; omega))
          have ht3 : Blk w3 w1.heap.size 41 #[.int .i64 p, .int .i64 q] := (hb3.block _ (by simp; omega)).trans ((Blk.new w1 _ _).alloc _)
          have g1 : w3.cell? ⟨w1.heap.size, 0, none⟩ = some (.int .i64 p) := ht3.cellS rfl
          have g2 : w3.cell? ⟨w1.heap.size, 1, none⟩ = some (.int .i64 q) := ht3.cellS rfl
          have HB13 := Lib.hid hB13
          have hHL := HLIVE.out
          generalize hlb : bitB _ cn8 = lb
          rw [hlb] at hHL
          have HLB := Lib.hid hHL
          have hRw1 : R < w1.heap.size := HRG1.out.lt
          have HRW1 := Lib.hid hRw1
          clear hb3 hB13 ht3 hHL hlb hlook hen' r0 r1 rz HLIVE hc8
          cases lb
          · --C12
            have hrg3 : w3.ranges Try.prog 41 (plainElem Try.prog 3) w2.heap.size R (9 * k) D (fun z => left z && !z.sameKey (kc (p, q))) cnt1 := HRG1.out.kept (row := none) ⟨HB13.out.os, HB13.out.tape, HB13.out.output, HB13.out.size, fun k hk _ => HB13.out.block k hk⟩ (by simp) (by simp)
            have HRG3 := Lib.hid hrg3
            have HSL3 : Hid (Sl w3 41 2 u15 L.length (flat L)) := HSL1.out.of_blk fun z hz => HB13.out.block z (HSL1.out.lt hz).1
            have HMS3 : Hid (MapS w3 (w2.heap.size + 1) k t) := HMS1.out.of_block (HB13.out.block _ HMS1.out.lt)
            have HB3 : Hid (Below w2.heap.size w2 w3) := HB1.out.trans (HB13.out.mono HB1.out.size)
            clear hrg3
            go_wp2
            go_roundw
            case rel =>
              refine ⟨_, _, L, HRG3.out, HSL3.out, HFR.out, HND.out, fun c => ?_, by omega, HMS3.out, HB3.out⟩
              rw [HL.out c]
              constructor
              · rintro ⟨k1, k2, k3, k4⟩
                exact ⟨k1, k2, left_mono k3, k4⟩
              · rintro ⟨k1, k2, k3, k4⟩
                rcases left_cases k1 HX.out k3 with k5 | rfl
                · exact ⟨k1, k2, k5, k4⟩
                · rw [HLB.out] at k4; cases k4
            case measure => rw [HRG3.out.left_eq, HRG.out.left_eq]; exact hlt
          · --C13
            have hrg3 : w3.ranges Try.prog 41 (plainElem Try.prog 3) w2.heap.size R (9 * k) D (fun z => left z && !z.sameKey (kc (p, q))) cnt1 := HRG1.out.kept (row := none) ⟨HB13.out.os, HB13.out.tape, HB13.out.output, HB13.out.size, fun k hk _ => HB13.out.block k hk⟩ (by simp) (by simp)
            have HRG3 := Lib.hid hrg3
            have HSL3 : Hid (Sl w3 41 2 u15 L.length (flat L)) := HSL1.out.of_blk fun z hz => HB13.out.block z (HSL1.out.lt hz).1
            have HMS3 : Hid (MapS w3 (w2.heap.size + 1) k t) := HMS1.out.of_block (HB13.out.block _ HMS1.out.lt)
            have HB3 : Hid (Below w2.heap.size w2 w3) := HB1.out.trans (HB13.out.mono HB1.out.size)
            have hrw3 : R < w3.heap.size := by have := HB13.out.size; omega
            have HRW3 := Lib.hid hrw3
            have HRD3 : Hid (Rd (w3.alloc (.cells #[.int .i64 p, .int .i64 q] 41)) (w3.heap.size + 1) 2 (.slice (some ⟨w3.heap.size, 0, none⟩) 1 1) 1 (flat [(p, q)])) := fresh_cells w3 [(p, q)] 1 rfl (by unfold maxLen; omega)
            clear hrg3
            go_wp2_with (at_builtin; refine wpList_append_sl _ rfl (.tmp 89) (.tmp 91) 24 rfl 41 (.agg #[.int .i64 0, .int .i64 0]) 2 16 Try.underlying24 Try.info41 rfl (by decide) rfl (HSL3.out.alloc _) rfl HRD3.out flat_one (by omega) (by unfold maxLen; omega) ?_; intro v4 w4 hs4 hm4 hd4)
            have hm4 : Mod (fun z => sblk u15 = some z) (w3.alloc (.cells #[.int .i64 p, .int .i64 q] 41)) w4 := hm4
            have hd4 : sblk v4 = sblk u15 ∨ sblk v4 = some (w3.alloc (.cells #[.int .i64 p, .int .i64 q] 41)).heap.size ∧ (w3.alloc (.cells #[.int .i64 p, .int .i64 q] 41)).heap.size < w4.heap.size := hd4
            have hga := mod_grown hm4
            have hal : w3.grownBy (w3.alloc (.cells #[.int .i64 p, .int .i64 q] 41)) none := ⟨rfl, rfl, rfl, by rw [World.size_alloc]; omega, fun k hk _ => Below.heap_alloc _ _ _ hk⟩
            have hne1 : sblk u15 ≠ some w2.heap.size := fun e => by have := HFR.out _ e; have := HR0.out; omega
            have hne2 : sblk u15 ≠ some R := fun e => by have := HFR.out _ e; omega
            have hne3 : sblk u15 ≠ some (w2.heap.size + 1) := fun e => by have := HFR.out _ e; have := HR0.out; omega
            have HRG4 : Hid (w4.ranges Try.prog 41 (plainElem Try.prog 3) w2.heap.size R (9 * k) D (fun z => left z && !z.sameKey (kc (p, q))) cnt1) := (HRG3.out.kept hal (by simp) (by simp)).kept hga hne1.symm hne2.symm
            have HMS4 : Hid (MapS w4 (w2.heap.size + 1) k t) := (HMS3.out.alloc _).of_block (hm4.block _ (by rw [World.size_alloc]; have := HR0.out; omega) (fun e => hne3 e))
            have HB4 : Hid (Below w2.heap.size w2 w4) := (HB3.out.alloc HB3.out.size _).trans (hm4.below (by rw [World.size_alloc]; have := HB3.out.size; omega) (fun z hz e => by have := HFR.out _ e; have := HR0.out; omega))
            have HFR4 : Hid (∀ z, sblk v4 = some z → R < z) := fun z hz => by
              rcases hd4 with e | ⟨e, _⟩
              · exact HFR.out z (by rw [← e]; exact hz)
              · rw [e] at hz; injection hz with hz; subst hz; rw [World.size_alloc]; omega
            have hnot : (p, q) ∉ L := fun hmem => by
              have := ((HL.out _).1 hmem).2.2.1
              rw [HLK.out] at this; cases this
            have HSL4 : Hid (Sl w4 41 2 v4 (L ++ [(p, q)]).length (flat (L ++ [(p, q)]))) := by
              show Sl _ _ _ _ _ _
              rw [List.length_append, flat_append]; exact hs4
            have HNOT := Lib.hid hnot
            clear hs4 hm4 hd4 hga hal hne1 hne2 hne3 hnot
            go_wp2
            go_roundw
            case rel =>
              refine ⟨_, _, L ++ [(p, q)], HRG4.out, HSL4.out, HFR4.out, ?_, fun c => ?_, by rw [List.length_append]; simp only [List.length_singleton]; omega, HMS4.out, HB4.out⟩
              · rw [List.nodup_append]
                exact ⟨HND.out, by simp, fun a ha b hb e => by simp at hb; subst hb; subst e; exact HNOT.out ha⟩
              · rw [List.mem_append, HL.out c, List.mem_singleton]
                constructor
                · rintro (⟨k1, k2, k3, k4⟩ | rfl)
                  · exact ⟨k1, k2, left_mono k3, k4⟩
                  · exact ⟨HX.out, HHAS.out, left_self _ _, HLB.out⟩
                · rintro ⟨k1, k2, k3, k4⟩
                  rcases left_cases k1 HX.out k3 with k5 | k5
                  · exact .inl ⟨k1, k2, k5, k4⟩
                  · exact .inr k5
            case measure => rw [HRG4.out.left_eq, HRG.out.left_eq]; exact hlt
end Go.Proofs.Ytkandepkojfblaa
