/- FramePieces: the walk. -/
import Derived.Test.YtfoipadgicjcaaaDoorFrames
import Derived.Test.YtfoipadgicjcaaaDoorW0
import Derived.Deep.RegionHeld3
namespace Go.Proofs.YtfoipadgicjcaaaDoor
open Go.RowKit

theorem feed_count : ∀ (s k : List UInt8), (feed k s).1.length ≤ s.length
  | [], k => by rw [feed]; simp
  | c :: s, k => by
    rw [feed]
    split
    · have := feed_count s []; simp; omega
    · have := feed_count s ((k ++ [c]).take 6001); simp; omega
theorem feed_cut {T : List (List UInt8) × List UInt8} {L : List (List UInt8)} {k rest : List UInt8} (n : Nat) (h1 : L ++ (feed k rest).1 = T.1) (h2 : (feed k rest).2 = T.2) :
    (L ++ (feed k (rest.take n)).1) ++ (feed (feed k (rest.take n)).2 (rest.drop n)).1 = T.1 ∧ (feed (feed k (rest.take n)).2 (rest.drop n)).2 = T.2 := by
  have e := feed_append (rest.take n) k (rest.drop n)
  rw [List.take_append_drop] at e
  rw [e] at h1 h2
  exact ⟨by rw [List.append_assoc]; exact h1, h2⟩

theorem strs_at {w : World} {B n : Nat} {A : Option Addr} {cap : Nat} {T : List (List UInt8)} (h : Rd w B 1 (.slice A n cap) n (strsV T)) (hl : T.length = n) {j : Nat} (hj : j < n) :
    ∃ b off, A = some ⟨b, off, none⟩ ∧ b < B ∧ w.cell? ⟨b, off + j, none⟩ = some (.string (str T[j]!)) := by
  obtain ⟨b, off, cap', e, _, _, hb, hc⟩ := h.at (by omega)
  injection e with e1 _ _
  exact ⟨b, off, e1, hb, hc j _ (by simp [strsV, List.getElem!_eq_getElem?_getD, List.getElem?_eq_getElem (show j < T.length by omega)])⟩

/-- A slice of ints that may be read. -/
def RdI (w : World) (v : Value) (n : Nat) : Prop :=
  ∃ A cap, v = .slice A n cap ∧ n ≤ cap ∧ cap ≤ maxLen ∧ ∀ j, j < n → ∃ b off x, A = some ⟨b, off, none⟩ ∧ b < w.heap.size ∧ w.cell? ⟨b, off + j, none⟩ = some (.int .i64 x) ∧ -9223372036854775808 ≤ x ∧ x ≤ 9223372036854775807

set_option maxRecDepth 100000 in
set_option maxHeartbeats 3200000 in
theorem pieces_any (w : World) (m : Int) (hm : w.cell? ⟨1, 0, none⟩ = some (.int .i64 m)) (s : List UInt8) (hs : s.length ≤ 1048576) (n : Nat) (v : Value) (hat : RdI w v n) :
    Calls Tryd.prog 5 #[.string (str s), v] w fun e w' => e = .returned (.bool true) ∧ Below w.heap.size w w' := by
  obtain ⟨A, cap, rfl, hnc, hcap, hcs⟩ := hat
  have HM := Lib.hid hm
  have HCS := Lib.hid hcs
  have hml := World.block_lt_of_cell? w _ hm
  have hml : 1 < w.heap.size := hml
  unfold maxLen at hcap
  clear hm hcs
  go_enter Tryd.func5, Tryd.ntmps5
  go_wp2_with fail
  (with_reducible refine (cut_lit _ m HM.out ⟨#[]⟩ (str s) [] s rfl rfl (by omega) (by decide) (by decide)).mono ?_)
  rintro e w1 ⟨vw, rfl, hsw, hfw, hb1⟩
  have HFC := Lib.hid (feed_count s [])
  have HT : Hid (feed [] s = feed [] s) := rfl
  generalize hT : feed [] s = T at hsw HFC HT ⊢
  have HTT := Lib.hid hT
  have HSW := Lib.hid hsw.rd
  have HB1 := Lib.hid hb1
  obtain ⟨Aw, capw, rfl, hcw, hcw2⟩ := hsw.form
  unfold maxLen at hcw2
  generalize hnT : T.1.length = nT at hsw hcw HFC HSW ⊢
  have HNT := Lib.hid hnT
  have HNIL := Lib.hid (Sl.nil w1 9 1)
  have hz1 := hb1.size
  clear hsw hfw hb1 hT HT hnT
  go_wp2_with fail
  go_loopw [7, 8, 9, 10] (fun lv rv kv iv wx => ∃ (i : Nat) (L : List (List UInt8)) (rest k : List UInt8), i ≤ n ∧ iv = .int .i64 i ∧ rv = .string (str rest) ∧ kv = .string (str k) ∧ Sl wx 9 1 lv L.length (strsV L) ∧ (∀ q, sblk lv = some q → w1.heap.size ≤ q) ∧ Below w1.heap.size w1 wx ∧
      k.length ≤ 6001 ∧ (10 : UInt8) ∉ k ∧ rest.length ≤ 1048576 ∧ L ++ (feed k rest).1 = T.1 ∧ (feed k rest).2 = T.2) (fun _ _ _ iv _ => n - (intOf iv).toNat)
  case atStart => exact ⟨0, [], s, [], Nat.zero_le _, rfl, rfl, rfl, HNIL.out, fun q hq => by simp [sblk] at hq, Below.refl _ _, by simp, by simp, hs, by rw [HTT.out]; rfl, by rw [HTT.out]⟩
  case round =>
    obtain ⟨i, L, rest, k, hi, rfl, rfl, rfl, hsl, hf, hb, hk, hnl, hrl, e1, e2⟩ := hrel
    have HSL := Lib.hid hsl
    have HF := Lib.hid hf
    have HB := Lib.hid hb
    have HNL := Lib.hid hnl
    have HE1 := Lib.hid e1
    have HE2 := Lib.hid e2
    have hsz := hb.size
    have hLn : L.length ≤ 1048576 := by
      have h1 := HFC.out
      have h2 := HNT.out
      have h3 : (L ++ (feed k rest).1).length = T.1.length := by rw [HE1.out]
      rw [List.length_append] at h3
      omega
    have HMr : Hid (wr.cell? ⟨1, 0, none⟩ = some (.int .i64 m)) := (hb.cell (p := ⟨1, 0, none⟩) (by show 1 < w1.heap.size; omega)).trans ((HB1.out.cell (p := ⟨1, 0, none⟩) hml).trans HM.out)
    clear hsl hf hb hnl e1 e2
    by_cases hgo : i < n ∧ rest ≠ []
    · --C1
      obtain ⟨hin, hne⟩ := hgo
      obtain ⟨b, off, x, rfl, hblt, hx, hx1, hx2⟩ := HCS.out i hin
      rw [← HB1.out.cell (p := ⟨b, off + i, none⟩) hblt, ← HB.out.cell (p := ⟨b, off + i, none⟩) (by show b < w1.heap.size; omega)] at hx
      have hemp : (str rest).toList.isEmpty = false := by rw [str_toList]; cases rest with | nil => exact absurd rfl hne | cons _ _ => rfl
      have hrs : ((str rest).size : Int) = (rest.length : Int) := by rw [str_size]
      have HXX : Hid (-9223372036854775808 ≤ x ∧ x ≤ 9223372036854775807) := ⟨hx1, hx2⟩
      clear hne hx1 hx2
      go_wp2_with fail
      (with_reducible refine (spot_any x ((rest.length : Int) + 1) (by omega) (by omega) HXX.out.1 HXX.out.2 _).mono ?_)
      rintro e wq ⟨rfl, rfl⟩
      obtain ⟨c, hc, hcl⟩ : ∃ c : Nat, x % ((rest.length : Int) + 1) = c ∧ c ≤ rest.length := ⟨(x % ((rest.length : Int) + 1)).toNat, by
        have := Int.emod_nonneg x (show (rest.length : Int) + 1 ≠ 0 by omega); omega, by
        have := Int.emod_lt_of_pos x (show 0 < (rest.length : Int) + 1 by omega)
        have := Int.emod_nonneg x (show (rest.length : Int) + 1 ≠ 0 by omega); omega⟩
      rw [hc]
      have hcli : (c : Int) ≤ (rest.length : Int) := by omega
      have ht := str_take rest c
      have hd := str_drop rest c
      obtain ⟨g1, g2⟩ := feed_cut c HE1.out HE2.out
      have HG1 := Lib.hid g1
      have HG2 := Lib.hid g2
      have HTL : Hid ((rest.take c).length ≤ 1048576 ∧ (rest.drop c).length ≤ 1048576) := ⟨by rw [List.length_take]; omega, by rw [List.length_drop]; omega⟩
      clear hc hx hemp g1 g2
      generalize rest.take c = p at ht HG1 HG2 HTL
      generalize rest.drop c = r at hd HG1 HG2 HTL
      go_wp2_with fail
      (with_reducible refine (cut_any _ m HMr.out k p (by have := HTL.out.1; omega) hk HNL.out).mono ?_)
      rintro e w2 ⟨v2, rfl, hs2, hf2, hb2⟩
      have HS2 := Lib.hid hs2.rd
      have HK2 := Lib.hid (feed_len p k hk)
      have HN2 := Lib.hid (feed_nl p k HNL.out)
      have HC2 := Lib.hid (feed_count p k)
      have HSL2 : Hid (Sl w2 9 1 u7 L.length (strsV L)) := HSL.out.of_blk fun q hq => hb2.block q (HSL.out.lt hq).1
      have HB2 : Hid (Below w1.heap.size w1 w2) := HB.out.trans (hb2.mono hsz)
      clear hs2 hf2 hb2
      generalize feed k p = F at HS2 HK2 HN2 HC2 HG1 HG2 ⊢
      have hF1 : F.1.length ≤ 1048576 := by have := HC2.out; have := HTL.out.1; omega
      obtain ⟨A2, cap2, rfl, _, hcap2⟩ := HS2.out.form
      obtain ⟨A7, cap7, rfl, _, hcap7⟩ := HSL2.out.form
      generalize hlF : F.1.length = lF at *
      generalize hlL : L.length = lL at *
      go_wp2_with fail
      go_region_held3 (fun _ => True) (exact trivial)
        ((refine step_append_sl _ rfl (.tmp 47) (.tmp 48) 26 rfl 9 (.string ⟨#[]⟩) 1 16 Tryd.underlying26 Tryd.infoStr rfl (by decide) rfl (by exact HSL2.out) rfl (by exact HS2.out) strsV_one (by omega) (by unfold maxLen; omega) ?_; intro v4 w4 hs4 hm4 hd4))
      obtain ⟨f1, f2⟩ := fresh_of (w := w1) (v := .slice A7 lL cap7) (by exact hm4) (by exact hd4) HB2.out.drew HF.out
      have HS4 : Hid (Sl w4 9 1 v4 (L ++ F.1).length (strsV (L ++ F.1))) := by
        show Sl _ _ _ _ _ _
        rw [List.length_append, hlL, hlF, strsV_append]; exact hs4
      have HF1 := Lib.hid f1
      have HF2 := Lib.hid f2
      clear hs4 hm4 hd4 f1 f2 ht hd
      go_wp2
      go_roundw
      case rel => exact ⟨i + 1, L ++ F.1, r, F.2, by omega, by go_num, rfl, rfl, HS4.out, HF1.out, HF2.out, HK2.out, HN2.out, HTL.out.2, HG1.out, HG2.out⟩
      case measure => simp [intOf]; omega
    · by_cases hin : i < n
      · have hre : rest = [] := Classical.byContradiction fun h => hgo ⟨hin, h⟩
        have hemp : (str rest).toList.isEmpty = true := by rw [hre, str_toList]; rfl
        clear hgo hre
        as_aux_lemma =>
        go_wp2_with fail
        clear hemp
        (with_reducible refine (cut_any _ m HMr.out k rest (by omega) hk HNL.out).mono ?_)
        rintro e w2 ⟨v2, rfl, hs2, hf2, hb2⟩
        have HS2 := Lib.hid hs2.rd
        have HC2 := Lib.hid (feed_count rest k)
        have HSL2 : Hid (Sl w2 9 1 u7 L.length (strsV L)) := HSL.out.of_blk fun q hq => hb2.block q (HSL.out.lt hq).1
        have HB2 : Hid (Below w1.heap.size w1 w2) := HB.out.trans (hb2.mono hsz)
        clear hs2 hf2 hb2
        rw [HE2.out]
        generalize (feed k rest).1 = F at HS2 HC2 HE1 ⊢
        have hF1 : F.length ≤ 1048576 := by have := HC2.out; omega
        obtain ⟨A2, cap2, rfl, _, hcap2⟩ := HS2.out.form
        obtain ⟨A7, cap7, rfl, _, hcap7⟩ := HSL2.out.form
        have hsum : L.length + F.length = nT := by rw [← List.length_append, HE1.out, HNT.out]
        generalize hlF : F.length = lF at *
        generalize hlL : L.length = lL at *
        go_wp2_with (at_builtin; refine wpList_append_sl _ rfl (.tmp 59) (.tmp 60) 26 rfl 9 (.string ⟨#[]⟩) 1 16 Tryd.underlying26 Tryd.infoStr rfl (by decide) rfl (by exact HSL2.out) rfl (by exact HS2.out) strsV_one (by omega) (by unfold maxLen; omega) ?_; intro v4 w4 hs4 hm4 hd4)
        obtain ⟨f1, f2⟩ := fresh_of (w := w1) (v := .slice A7 lL cap7) (by exact hm4) (by exact hd4) HB2.out HF.out
        rw [← strsV_append, HE1.out, hsum] at hs4
        have HS4 := Lib.hid hs4.rd
        have HF2 := Lib.hid f2
        obtain ⟨A4, cap4, rfl, hc4, hcap4⟩ := hs4.form
        unfold maxLen at hcap4
        have HM4 : Hid (w4.cell? ⟨1, 0, none⟩ = some (.int .i64 m)) := (f2.cell (p := ⟨1, 0, none⟩) (by show 1 < w1.heap.size; omega)).trans ((HB1.out.cell (p := ⟨1, 0, none⟩) hml).trans HM.out)
        clear hs4 hm4 hd4 f1 f2
        go_wp2_with fail
        (with_reducible refine (frames_true _ m HM4.out).mono ?_)
        rintro e w5 ⟨rfl, hb5⟩
        have HB5 : Hid (Below w.heap.size w w5) := HB1.out.trans ((HF2.out.mono hz1).trans (hb5.mono (by have := HF2.out.size; omega)))
        have HA5 : Hid (Rd w5 w4.heap.size 1 (.slice A4 nT cap4) nT (strsV T.1)) := HS4.out.below hb5
        have HW5 : Hid (Rd w5 w1.heap.size 1 (.slice Aw nT capw) nT (strsV T.1)) := (HSW.out.below HF2.out).below (hb5.mono HF2.out.size)
        have HZ5 : Hid (w1.heap.size ≤ w5.heap.size ∧ w4.heap.size ≤ w5.heap.size) := ⟨Nat.le_trans HF2.out.size hb5.size, hb5.size⟩
        clear hb5
        generalize str T.2 = S
        go_wp2_with fail
        go_loopw [14] (fun iv wx => ∃ j d : Nat, j ≤ nT ∧ iv = .int .i64 j ∧ wx = w5.drewN d) (fun iv _ => nT - (intOf iv).toNat)
        case atStart => exact ⟨0, 0, Nat.zero_le _, rfl, rfl⟩
        case round =>
          obtain ⟨j, d, hj, rfl, rfl⟩ := hrel
          by_cases hlt : j < nT
          · obtain ⟨b4, o4, rfl, hb4, hc4'⟩ := strs_at HA5.out HNT.out hlt
            obtain ⟨bw, ow, rfl, hbw, hcw'⟩ := strs_at HW5.out HNT.out hlt
            generalize str T.1[j]! = q at hc4' hcw'
            go_wp2_with fail
            go_quiet (fail)
            go_wp2_with fail
            go_roundw
            case rel => exact ⟨j + 1, _, by omega, by go_num, rfl⟩
            case measure => simp [intOf]; omega
          · obtain rfl : j = nT := by omega
            go_wp2
            go_ret
            exact ⟨rfl, ⟨HB5.out.os, HB5.out.tape, HB5.out.output, HB5.out.size, HB5.out.block⟩⟩
      · clear hgo
        as_aux_lemma =>
        go_wp2_with fail
        (with_reducible refine (cut_any _ m HMr.out k rest (by omega) hk HNL.out).mono ?_)
        rintro e w2 ⟨v2, rfl, hs2, hf2, hb2⟩
        have HS2 := Lib.hid hs2.rd
        have HC2 := Lib.hid (feed_count rest k)
        have HSL2 : Hid (Sl w2 9 1 u7 L.length (strsV L)) := HSL.out.of_blk fun q hq => hb2.block q (HSL.out.lt hq).1
        have HB2 : Hid (Below w1.heap.size w1 w2) := HB.out.trans (hb2.mono hsz)
        clear hs2 hf2 hb2
        rw [HE2.out]
        generalize (feed k rest).1 = F at HS2 HC2 HE1 ⊢
        have hF1 : F.length ≤ 1048576 := by have := HC2.out; omega
        obtain ⟨A2, cap2, rfl, _, hcap2⟩ := HS2.out.form
        obtain ⟨A7, cap7, rfl, _, hcap7⟩ := HSL2.out.form
        have hsum : L.length + F.length = nT := by rw [← List.length_append, HE1.out, HNT.out]
        generalize hlF : F.length = lF at *
        generalize hlL : L.length = lL at *
        go_wp2_with (at_builtin; refine wpList_append_sl _ rfl (.tmp 59) (.tmp 60) 26 rfl 9 (.string ⟨#[]⟩) 1 16 Tryd.underlying26 Tryd.infoStr rfl (by decide) rfl (by exact HSL2.out) rfl (by exact HS2.out) strsV_one (by omega) (by unfold maxLen; omega) ?_; intro v4 w4 hs4 hm4 hd4)
        obtain ⟨f1, f2⟩ := fresh_of (w := w1) (v := .slice A7 lL cap7) (by exact hm4) (by exact hd4) HB2.out HF.out
        rw [← strsV_append, HE1.out, hsum] at hs4
        have HS4 := Lib.hid hs4.rd
        have HF2 := Lib.hid f2
        obtain ⟨A4, cap4, rfl, hc4, hcap4⟩ := hs4.form
        unfold maxLen at hcap4
        have HM4 : Hid (w4.cell? ⟨1, 0, none⟩ = some (.int .i64 m)) := (f2.cell (p := ⟨1, 0, none⟩) (by show 1 < w1.heap.size; omega)).trans ((HB1.out.cell (p := ⟨1, 0, none⟩) hml).trans HM.out)
        clear hs4 hm4 hd4 f1 f2
        go_wp2_with fail
        (with_reducible refine (frames_true _ m HM4.out).mono ?_)
        rintro e w5 ⟨rfl, hb5⟩
        have HB5 : Hid (Below w.heap.size w w5) := HB1.out.trans ((HF2.out.mono hz1).trans (hb5.mono (by have := HF2.out.size; omega)))
        have HA5 : Hid (Rd w5 w4.heap.size 1 (.slice A4 nT cap4) nT (strsV T.1)) := HS4.out.below hb5
        have HW5 : Hid (Rd w5 w1.heap.size 1 (.slice Aw nT capw) nT (strsV T.1)) := (HSW.out.below HF2.out).below (hb5.mono HF2.out.size)
        have HZ5 : Hid (w1.heap.size ≤ w5.heap.size ∧ w4.heap.size ≤ w5.heap.size) := ⟨Nat.le_trans HF2.out.size hb5.size, hb5.size⟩
        clear hb5
        generalize str T.2 = S
        go_wp2_with fail
        go_loopw [14] (fun iv wx => ∃ j d : Nat, j ≤ nT ∧ iv = .int .i64 j ∧ wx = w5.drewN d) (fun iv _ => nT - (intOf iv).toNat)
        case atStart => exact ⟨0, 0, Nat.zero_le _, rfl, rfl⟩
        case round =>
          obtain ⟨j, d, hj, rfl, rfl⟩ := hrel
          by_cases hlt : j < nT
          · obtain ⟨b4, o4, rfl, hb4, hc4'⟩ := strs_at HA5.out HNT.out hlt
            obtain ⟨bw, ow, rfl, hbw, hcw'⟩ := strs_at HW5.out HNT.out hlt
            generalize str T.1[j]! = q at hc4' hcw'
            go_wp2_with fail
            go_quiet (fail)
            go_wp2_with fail
            go_roundw
            case rel => exact ⟨j + 1, _, by omega, by go_num, rfl⟩
            case measure => simp [intOf]; omega
          · obtain rfl : j = nT := by omega
            go_wp2
            go_ret
            exact ⟨rfl, ⟨HB5.out.os, HB5.out.tape, HB5.out.output, HB5.out.size, HB5.out.block⟩⟩
end Go.Proofs.YtfoipadgicjcaaaDoor
