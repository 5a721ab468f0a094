/- lifelodgekeep.KeysOpen: the walk. -/
import Derived.Test.YtfoipadgicjcaaaDoorKeyLaw
import Derived.Test.YtfoipadgicjcaaaDoorOpens
namespace Go.Proofs.YtfoipadgicjcaaaDoor
open Go.RowKit

theorem Rd.get {w : World} {B sz b off n cap : Nat} {xs : List Value} (h : Rd w B sz (.slice (some ⟨b, off, none⟩) n cap) n xs) (hn : 0 < n) {j : Nat} {u : Value} (hj : xs[j]? = some u) : w.cell? ⟨b, off + j, none⟩ = some u := by
  obtain ⟨b', off', cap', hA, _, _, _, hc⟩ := h.at hn
  injection hA with hA _ _
  injection hA with hA
  injection hA with h1 h2 _
  subst h1; subst h2
  exact hc j u hj
theorem open_a {wr w3 : World} {p b o : Nat} {u0 u1 u2 : Value} (hb : Below wr.drew.heap.size wr.drew w3) (t0 : wr.cell? ⟨p, 0, none⟩ = some u0) (t1 : wr.cell? ⟨p, 1, none⟩ = some u1) (x0 : wr.cell? ⟨b, o, none⟩ = some u2) :
    Below wr.heap.size wr w3 ∧ w3.cell? ⟨p, 0, none⟩ = some u0 ∧ w3.cell? ⟨p, 1, none⟩ = some u1 ∧ w3.cell? ⟨b, o, none⟩ = some u2 := by
  have h : Below wr.heap.size wr w3 := ⟨hb.os, hb.tape, hb.output, hb.size, hb.block⟩
  exact ⟨h, (h.cell (p := ⟨p, 0, none⟩) (World.block_lt_of_cell? wr _ t0)).trans t0, (h.cell (p := ⟨p, 1, none⟩) (World.block_lt_of_cell? wr _ t1)).trans t1, (h.cell (p := ⟨b, o, none⟩) (World.block_lt_of_cell? wr _ x0)).trans x0⟩

set_option maxRecDepth 100000 in
set_option maxHeartbeats 800000 in
theorem keysOpen_any (w : World) (n : Nat) (L : List WantD) (hL : L.length = n) (lv : Value) (hr : Rd w w.heap.size 3 lv n (wantsV L)) (hw : ∀ x ∈ L, i64 x.rights) (r : Int) (hri : i64 r)
    (h : w.cell? ⟨5, 15, none⟩ = some (.int .u8 4)) :
    Calls Tryd.prog 4 #[lv, .int .i64 r] w fun e w' => e = .returned (.bool true) ∧ Below w.heap.size w w' := by
  have hlt5 : 5 < w.heap.size := World.block_lt_of_cell? w _ h
  have H := Lib.hid h
  have HL := Lib.hid hr
  have HW := Lib.hid hw
  have HRI := Lib.hid hri
  obtain ⟨A, cap, rfl, hc1, hc2⟩ := hr.form
  clear h hr hw hri
  go_enter Tryd.func4, Tryd.ntmps4
  go_wp2_with fail
  (with_reducible refine (minted_any w n L hL _ (by exact HL.out) HW.out H.out).mono ?_)
  rintro e w1 ⟨K, kv, tv, hM, hKn, rfl, hkr, htr, hb⟩
  obtain ⟨m, hm⟩ : ∃ m, K.length = m := ⟨_, rfl⟩
  rw [hm] at hkr htr hKn ⊢
  have hm32 : m ≤ 32 := by omega
  have hmn : m ≤ n := by omega
  obtain ⟨A1, cap1, rfl, hz1, hz2⟩ := hkr.form
  obtain ⟨A2, cap2, rfl, hz3, hz4⟩ := htr.form
  have HK := Lib.hid hkr
  have HT := Lib.hid htr
  have HB := Lib.hid hb
  have HM := Lib.hid hM
  have HC := Lib.hid ((hb.cell (p := ⟨5, 15, none⟩) hlt5).trans H.out)
  clear hkr htr hb hM hKn
  go_wp2_with fail
  have HT1 : Hid (Blk (w1.alloc (.cells #[.int .i64 m, .slice A1 m cap1] TB)) w1.heap.size TB #[.int .i64 m, .slice A1 m cap1]) := Blk.new _ _ _
  have HB1 : Hid (Below w1.heap.size w1 (w1.alloc (.cells #[.int .i64 m, .slice A1 m cap1] TB))) := (Below.refl _ _).alloc (Nat.le_refl _) _
  (with_reducible refine (opens_any _ ((HB1.out.cell (p := ⟨5, 15, none⟩) (World.block_lt_of_cell? w1 _ HC.out)).trans HC.out)).mono ?_)
  rintro e w2 ⟨rfl, hb2⟩
  have HB2 : Hid (Below w1.heap.size w1 w2) := HB1.out.trans (hb2.mono HB1.out.size)
  have HT2 : Hid (Blk w2 w1.heap.size TB #[.int .i64 m, .slice A1 m cap1]) := (hb2.block _ HT1.out.lt).trans HT1.out
  clear hb2 HB1 HT1
  go_wp2_with fail
  have hri1 : -9223372036854775808 ≤ r ∧ r ≤ 9223372036854775807 := HRI.out
  (with_reducible refine (spot_any r 3 (by omega) (by omega) hri1.1 hri1.2 _).mono ?_)
  rintro e wq ⟨rfl, rfl⟩
  obtain ⟨q, hq⟩ : ∃ q, q = r % 3 := ⟨_, rfl⟩
  have hq0 : 0 ≤ q := by rw [hq]; exact Int.emod_nonneg r (show (3 : Int) ≠ 0 by omega)
  have hq1 : q < 3 := by rw [hq]; exact Int.emod_lt_of_pos r (show (0 : Int) < 3 by omega)
  rw [← hq]
  clear hq
  have hwq : IntKind.i64.wrap (1 + q) = 1 + q := by rw [IntKind.wrap_i64]; omega
  go_wp2_with fail
  go_loopw [8, 9, 10, 11, 12] (fun iv _ _ _ _ wx => ∃ i : Nat, iv = .int .i64 i ∧ i ≤ m ∧ Below w1.heap.size w1 wx ∧ Blk wx w1.heap.size TB #[.int .i64 m, .slice A1 m cap1]) (fun iv _ _ _ _ _ => m - (intOf iv).toNat)
  case atStart => exact ⟨0, rfl, Nat.zero_le _, HB2.out, HT2.out⟩
  case round =>
    obtain ⟨i, rfl, hi, hb, hT⟩ := hrel
    have HBR := Lib.hid hb
    have HTR := Lib.hid hT
    clear hb hT
    by_cases hin : i < m
    · obtain ⟨k, hki⟩ : ∃ k, K[i]? = some k := ⟨K[i]'(by omega), List.getElem?_eq_getElem (by omega)⟩
      obtain ⟨hh, wd, hwd, hhh, hk⟩ := HM.out i k hki
      have HWD := Lib.hid (HW.out wd (List.mem_of_getElem? hwd))
      have hlt : (i : Int) < (m : Int) := by omega
      have hlt' : (i : Int) < (n : Int) := by omega
      obtain ⟨bt, ot, ct, hA, _, _, hbt, hct⟩ := (HT.out.below HBR.out).at (by omega)
      injection hA with hA _ hcap; subst hA; subst hcap
      have x0 : wr.cell? ⟨bt, ot + i, none⟩ = some (.string (str k.text)) := hct i _ (textsV_at K i k hki)
      obtain ⟨bl, ol, cl, hA, _, _, hbl, hcl⟩ := (((HL.out.below HB.out).more HB.out.size).below HBR.out).at (by omega)
      injection hA with hA _ hcap; subst hA; subst hcap
      have l0 : wr.cell? ⟨bl, ol + i * 3, none⟩ = some (.string wd.name) := hcl (i * 3) _ ((wantsV_at L i wd hwd 0 (by omega)).trans rfl)
      have l1 : wr.cell? ⟨bl, ol + i * 3 + 1, none⟩ = some (.int .i64 wd.rights) := hcl (i * 3 + 1) _ ((wantsV_at L i wd hwd 1 (by omega)).trans rfl)
      have t0 : wr.cell? ⟨w1.heap.size, 0, none⟩ = some (.int .i64 m) := HTR.out.cellS rfl
      have t1 : wr.cell? ⟨w1.heap.size, 1, none⟩ = some (.slice A1 m cap1) := HTR.out.cellS rfl
      clear hct hcl
      go_wp2_with fail
      have HKK := Lib.hid hk
      have hsz : w1.heap.size ≤ wr.heap.size := HBR.out.size
      clear hk hwd hhh
      go_region_held3 (fun w' => w'.cell? ⟨w1.heap.size, 0, none⟩ = some (.int .i64 m) ∧ w'.cell? ⟨w1.heap.size, 1, none⟩ = some (.slice A1 m cap1) ∧ w'.cell? ⟨bt, ot + i, none⟩ = some (.string (str k.text)))
        (first | exact ⟨t0, t1, x0⟩ | exact ⟨e0, e1, e2⟩ | go_keep)
        ((go_at_call 9; go_loud (refine (find_any _ _ m hm32 K hm _ w1.heap.size (by exact hsz) (by exact HK.out.below HBR.out.drew) (str k.text) (1 + q)).mono ?_); go_loud (rintro e w3 ⟨nm, x, hf, rfl, hb3d⟩); go_loud (obtain ⟨hb3, e0, e1, e2⟩ := open_a hb3d t0 t1 x0)))
      have hown := HM.out.own (by rw [hm]; exact hm32) hki hf
      have HRD := Lib.hid (show -9223372036854775808 ≤ wd.rights ∧ wd.rights ≤ 9223372036854775807 from HWD.out)
      obtain ⟨p, hp⟩ : ∃ p, p = wd.rights % 3 := ⟨_, rfl⟩
      have hp0 : 0 ≤ p := by rw [hp]; exact Int.emod_nonneg wd.rights (show (3 : Int) ≠ 0 by omega)
      have hp1 : p < 3 := by rw [hp]; exact Int.emod_lt_of_pos wd.rights (show (0 : Int) < 3 by omega)
      have hwp : IntKind.i64.wrap (1 + p) = 1 + p := by rw [IntKind.wrap_i64]; omega
      have HP := Lib.hid hp
      have hkr : k.rights = 1 + p := by rw [HKK.out, hp]
      have hkn : k.name = wd.name := by rw [HKK.out]
      rw [hkr, hkn] at hown
      have l0' : w3.cell? ⟨bl, ol + i * 3, none⟩ = some (.string wd.name) := (hb3.cell (p := ⟨bl, ol + i * 3, none⟩) (World.block_lt_of_cell? wr _ l0)).trans l0
      have l1' : w3.cell? ⟨bl, ol + i * 3 + 1, none⟩ = some (.int .i64 wd.rights) := (hb3.cell (p := ⟨bl, ol + i * 3 + 1, none⟩) (World.block_lt_of_cell? wr _ l1)).trans l1
      have HB3 := Lib.hid hb3
      have hbb : (wd.name.toList == wd.name.toList) = true := by simp
      clear hf hb3d hb3 t0 t1 x0 l0 l1 hp hkr hkn
      go_wp2_with fail
      (with_reducible refine (spot_any wd.rights 3 (by omega) (by omega) HRD.out.1 HRD.out.2 _).mono ?_)
      rintro e wq ⟨rfl, rfl⟩
      rw [← HP.out]
      rcases hown with ⟨ha, rfl, rfl⟩ | ⟨ha, rfl, rfl⟩
      all_goals (
        go_wp2_with fail
        have hkey := HM.out.keyed (by rw [hm]; exact hm32) hki
        have HKEY := Lib.hid hkey
        have hwi : IntKind.i64.wrap ((i : Int) + 1) = (i : Int) + 1 := by rw [IntKind.wrap_i64]; omega
        have HB5 : Hid (Below w1.heap.size w1 w3) := HBR.out.trans (HB3.out.mono hsz)
        have HT5 : Hid (Blk w3 w1.heap.size TB #[.int .i64 m, .slice A1 m cap1]) := (HB3.out.block _ HTR.out.lt).trans HTR.out
        clear hkey e0 e1 e2 l0' l1' ha
        go_loopw [12] (fun jv wx => ∃ j : Nat, jv = .int .i64 j ∧ j ≤ i ∧ Below w1.heap.size w1 wx ∧ Blk wx w1.heap.size TB #[.int .i64 m, .slice A1 m cap1]) (fun jv _ => i - (intOf jv).toNat)
        case atStart => exact ⟨0, rfl, Nat.zero_le _, HB5.out, HT5.out⟩
        case round =>
          obtain ⟨j, rfl, hj, hbj, hTj⟩ := hrel
          have HBJ := Lib.hid hbj
          have HTJ := Lib.hid hTj
          clear hbj hTj
          by_cases hji : j < i
          · obtain ⟨k', hkj⟩ : ∃ k, K[j]? = some k := ⟨K[j]'(by omega), List.getElem?_eq_getElem (by omega)⟩
            have hne : str k'.text ≠ str k.text := fun e => by have := HM.out.inj (by rw [hm]; exact hm32) hkj hki e; omega
            have hnb : ((str k'.text).toList == (str k.text).toList) = false := by rw [beq_bytes]; exact decide_eq_false hne
            have y0 : wr.cell? ⟨bt, ot + i, none⟩ = some (.string (str k.text)) := (HT.out.below HBJ.out).get (by omega) (textsV_at K i k hki)
            have y1 : wr.cell? ⟨bt, ot + j, none⟩ = some (.string (str k'.text)) := (HT.out.below HBJ.out).get (by omega) (textsV_at K j k' hkj)
            have hwj : IntKind.i64.wrap ((j : Int) + 1) = (j : Int) + 1 := by rw [IntKind.wrap_i64]; omega
            have hj1 : (j : Int) < (i : Int) := by omega
            have hj2 : (j : Int) < (m : Int) := by omega
            go_wp2_with fail
            go_quiet (fail)
            go_wp2_with fail
            go_roundw
            case rel => exact ⟨j + 1, by go_num, by omega, ⟨HBJ.out.os, HBJ.out.tape, HBJ.out.output, HBJ.out.size, HBJ.out.block⟩, HTJ.out.drewN _⟩
            case measure => simp [intOf]; omega
          · have hj1 : ¬ (j : Int) < (i : Int) := by omega
            have y0 : wr.cell? ⟨bt, ot + i, none⟩ = some (.string (str k.text)) := (HT.out.below HBJ.out).get (by omega) (textsV_at K i k hki)
            go_wp2_with fail
            obtain ⟨q1, q2, q3, q4⟩ := HKEY.out
            (with_reducible refine (keyed_any wr k.text q1 q2 q3 q4).mono ?_)
            rintro e wq ⟨rfl, rfl⟩
            go_wp2_with fail
            go_roundw
            case rel => exact ⟨i + 1, by go_num, by omega, HBJ.out, HTJ.out⟩
            case measure => simp [intOf]; omega)
    · have hge : ¬ (i : Int) < (m : Int) := by omega
      go_wp2_with fail
      go_ret
      exact ⟨rfl, HB.out.trans (HBR.out.mono HB.out.size)⟩
end Go.Proofs.YtfoipadgicjcaaaDoor
