/- lifelodgekeep.KeysGone: the walk. -/
import Derived.Test.YtfoipadgicjcaaaDoorOpenW
namespace Go.Proofs.YtfoipadgicjcaaaDoor
open Go.RowKit

theorem without_all (name : ByteArray) (K : List KeyD) : without name (K.take K.length) = without name K := by rw [List.take_length]

set_option maxRecDepth 100000 in
set_option maxHeartbeats 3200000 in
theorem keysGone_any (w : World) (n : Nat) (L : List WantD) (hL : L.length = n) (lv : Value) (hr : Rd w w.heap.size 3 lv n (wantsV L)) (hw : ∀ x ∈ L, i64 x.rights) (name : ByteArray)
    (h : w.cell? ⟨5, 15, none⟩ = some (.int .u8 4)) :
    Calls Tryd.prog 3 #[lv, .string name] w fun e w' => e = .returned (.bool true) ∧ Below w.heap.size w w' := by
  have hlt5 : 5 < w.heap.size := World.block_lt_of_cell? w _ h
  have H := Lib.hid h
  have HL := Lib.hid hr
  have HW := Lib.hid hw
  obtain ⟨A, cap, rfl, hc1, hc2⟩ := hr.form
  clear h hr hw
  go_enter Tryd.func3, Tryd.ntmps3
  go_wp2_with fail
  (with_reducible refine (minted_any w n L hL _ (by exact HL.out) HW.out H.out).mono ?_)
  rintro e w1 ⟨K, kv, tv, hM, hKn, rfl, hkr, htr, hb⟩
  obtain ⟨m, hm⟩ : ∃ m, K.length = m := ⟨_, rfl⟩
  rw [hm] at hkr htr hKn ⊢
  have hm32 : m ≤ 32 := by omega
  have hmn : m ≤ n := by omega
  obtain ⟨A1, cap1, rfl, hz1, hz2⟩ := hkr.form
  obtain ⟨A2, cap2, rfl, hz3, hz4⟩ := htr.form
  have HK := Lib.hid hkr
  have HT := Lib.hid htr
  have HB := Lib.hid hb
  have HM := Lib.hid hM
  have HC := Lib.hid ((hb.cell (p := ⟨5, 15, none⟩) hlt5).trans H.out)
  clear hkr htr hb hM hKn
  go_wp2_with fail
  have HT1 : Hid (Blk (w1.alloc (.cells #[.int .i64 m, .slice A1 m cap1] TB)) w1.heap.size TB #[.int .i64 m, .slice A1 m cap1]) := Blk.new _ _ _
  have HB1 : Hid (Below w1.heap.size w1 (w1.alloc (.cells #[.int .i64 m, .slice A1 m cap1] TB))) := (Below.refl _ _).alloc (Nat.le_refl _) _
  (with_reducible refine (opens_any _ ((HB1.out.cell (p := ⟨5, 15, none⟩) (World.block_lt_of_cell? w1 _ HC.out)).trans HC.out)).mono ?_)
  rintro e w2 ⟨rfl, hb2⟩
  have HB2 : Hid (Below w1.heap.size w1 w2) := HB1.out.trans (hb2.mono HB1.out.size)
  have HT2 : Hid (Blk w2 w1.heap.size TB #[.int .i64 m, .slice A1 m cap1]) := (hb2.block _ HT1.out.lt).trans HT1.out
  clear hb2 HB1 HT1
  have t0 : w2.cell? ⟨w1.heap.size, 0, none⟩ = some (.int .i64 m) := HT2.out.cellS rfl
  have t1 : w2.cell? ⟨w1.heap.size, 1, none⟩ = some (.slice A1 m cap1) := HT2.out.cellS rfl
  go_wp2_with fail
  (with_reducible refine (revoke_any w2 m m hm32 K hm _ w1.heap.size HB2.out.size (HK.out.below HB2.out) name).mono ?_)
  rintro e w3 ⟨v, rfl, hv, hb3⟩
  obtain ⟨c, hc⟩ : ∃ c, (without name K).length = c := ⟨_, rfl⟩
  rw [hc] at hv ⊢
  obtain ⟨A3, cap3, rfl, hz5, hz6⟩ := hv.form
  have HV := Lib.hid hv
  have HB3 : Hid (Below w1.heap.size w1 w3) := HB2.out.trans (hb3.mono HB2.out.size)
  have HT3 : Hid (Blk w3 w1.heap.size TB #[.int .i64 m, .slice A1 m cap1]) := (hb3.block _ HT2.out.lt).trans HT2.out
  clear hv hb3 t0 t1
  go_wp2_with fail
  have HW0 := Lib.hid (show (without name K).length = c from hc)
  have hcm : c ≤ m := by rw [← hc, ← hm]; exact without_len name K
  have hc32 : c ≤ 32 := by omega
  have hu : Hid (Blk (w3.alloc (.cells #[.int .i64 m, .slice A3 c cap3] TB)) w3.heap.size TB #[.int .i64 m, .slice A3 c cap3]) := Blk.new _ _ _
  go_loopw [9, 10, 11] (fun nv iv _ wx => ∃ (i d : Nat), iv = .int .i64 i ∧ i ≤ m ∧ (without name (K.take i)).length = d ∧ d ≤ i ∧ d ≤ c ∧ nv = .int .i64 ((m : Int) - (c : Int) - ((i : Int) - (d : Int))) ∧ Below w3.heap.size w3 wx ∧ Blk wx w3.heap.size TB #[.int .i64 m, .slice A3 c cap3]) (fun _ iv _ _ => m - (intOf iv).toNat)
  case atStart => exact ⟨0, 0, rfl, Nat.zero_le _, by simp [without], Nat.le_refl _, Nat.zero_le _, by go_num, (Below.refl _ _).alloc (Nat.le_refl _) _, hu.out⟩
  case round =>
    obtain ⟨i, d, rfl, hi, hd, hdi, hdc, rfl, hb, hU⟩ := hrel
    have HBR := Lib.hid hb
    have HUR := Lib.hid hU
    have HD := Lib.hid hd
    clear hb hU hd
    have HB4 : Hid (Below w1.heap.size w1 wr) := HB3.out.trans (HBR.out.mono HB3.out.size)
    have s0 : wr.cell? ⟨w3.heap.size, 0, none⟩ = some (.int .i64 m) := HUR.out.cellS rfl
    have s1 : wr.cell? ⟨w3.heap.size, 1, none⟩ = some (.slice A3 c cap3) := HUR.out.cellS rfl
    by_cases hin : i < m
    · obtain ⟨k, hki⟩ : ∃ k, K[i]? = some k := ⟨K[i]'(by omega), List.getElem?_eq_getElem (by omega)⟩
      obtain ⟨hh, wd, hwd, hhh, hk⟩ := HM.out i k hki
      have hlt : (i : Int) < (m : Int) := by omega
      have hlt' : (i : Int) < (n : Int) := by omega
      obtain ⟨bt, ot, ct, hA, _, _, hbt, hct⟩ := (HT.out.below HB4.out).at (by omega)
      injection hA with hA _ hcap; subst hA; subst hcap
      have x0 : wr.cell? ⟨bt, ot + i, none⟩ = some (.string (str k.text)) := hct i _ (textsV_at K i k hki)
      obtain ⟨bl, ol, cl, hA, _, _, hbl, hcl⟩ := (((HL.out.below HB.out).more HB.out.size).below HB4.out).at (by omega)
      injection hA with hA _ hcap; subst hA; subst hcap
      have l0 : wr.cell? ⟨bl, ol + i * 3, none⟩ = some (.string wd.name) := hcl (i * 3) _ ((wantsV_at L i wd hwd 0 (by omega)).trans rfl)
      have hsz : w3.heap.size ≤ wr.heap.size := HBR.out.size
      have hkn : k.name = wd.name := by rw [hk]
      have HST := Lib.hid (without_step name K i k hki)
      have HLE := Lib.hid (show (without name (K.take (i + 1))).length ≤ c by
        rw [← HW0.out]
        unfold without
        exact (List.Sublist.filter _ (List.take_sublist (i + 1) K)).length_le)
      clear hct hcl hk hwd hhh
      go_wp2_with fail
      go_region_held3 (fun w' => w'.cell? ⟨w3.heap.size, 0, none⟩ = some (.int .i64 m) ∧ w'.cell? ⟨w3.heap.size, 1, none⟩ = some (.slice A3 c cap3) ∧ w'.cell? ⟨bt, ot + i, none⟩ = some (.string (str k.text)))
        (first | exact ⟨s0, s1, x0⟩ | exact ⟨e0, e1, e2⟩ | go_keep)
        ((go_at_call 9; go_loud (refine (find_any _ _ c hc32 (without name K) HW0.out _ w3.heap.size (by exact hsz) (by exact HV.out.below HBR.out.drew) (str k.text) 0).mono ?_); go_loud (rintro e w5 ⟨nm, x, hf, rfl, hb3d⟩); go_loud (obtain ⟨hb5, e0, e1, e2⟩ := open_a hb3d s0 s1 x0)))
      have hgone := HM.out.gone (by rw [hm]; exact hm32) hki hf
      rw [hkn] at hgone
      have l0' : w5.cell? ⟨bl, ol + i * 3, none⟩ = some (.string wd.name) := (hb5.cell (p := ⟨bl, ol + i * 3, none⟩) (World.block_lt_of_cell? wr _ l0)).trans l0
      have HB5 : Hid (Below w3.heap.size w3 w5) := HBR.out.trans (hb5.mono hsz)
      have HU5 : Hid (Blk w5 w3.heap.size TB #[.int .i64 m, .slice A3 c cap3]) := (hb5.block _ HUR.out.lt).trans HUR.out
      have hwi : IntKind.i64.wrap ((i : Int) + 1) = (i : Int) + 1 := by rw [IntKind.wrap_i64]; omega
      have hdi' := HLE.out
      rw [HST.out, List.length_append, HD.out, hkn] at hdi'
      have HDI := Lib.hid hdi'
      clear hf hb3d hb5 s0 s1 x0 l0 e0 e1 e2 hdi'
      rcases hgone with ⟨hne, rfl⟩ | ⟨heq, rfl⟩
      · have hnb : (wd.name.toList == name.toList) = false := by rw [beq_bytes]; exact decide_eq_false hne
        have HDN : Hid ((without name (K.take (i + 1))).length = d + 1 ∧ d + 1 ≤ c) := by
          have h1 := HDI.out
          rw [if_neg hne] at h1
          refine ⟨by rw [HST.out, List.length_append, HD.out, hkn, if_neg hne]; rfl, by simpa using h1⟩
        clear hne
        go_wp2_with fail
        go_roundw
        case rel => exact ⟨i + 1, d + 1, by go_num, by omega, HDN.out.1, by omega, HDN.out.2, by go_num, HB5.out, HU5.out⟩
        case measure => simp [intOf]; omega
      · have hnb : (wd.name.toList == name.toList) = true := by rw [beq_bytes]; exact decide_eq_true heq
        have hwn : IntKind.i64.wrap ((m : Int) - (c : Int) - ((i : Int) - (d : Int)) - 1) = (m : Int) - (c : Int) - ((i : Int) - (d : Int)) - 1 := by rw [IntKind.wrap_i64]; omega
        have HDN : Hid ((without name (K.take (i + 1))).length = d) := by
          show _ = _
          rw [HST.out, List.length_append, HD.out, hkn, if_pos heq]; rfl
        clear heq
        go_wp2_with fail
        go_roundw
        case rel => exact ⟨i + 1, d, by go_num, by omega, HDN.out, by omega, by omega, by go_num, HB5.out, HU5.out⟩
        case measure => simp [intOf]; omega
    · have hge : ¬ (i : Int) < (m : Int) := by omega
      have him : i = m := by omega
      have hdc' : d = c := by
        have h1 := HD.out
        rw [him, ← hm, List.take_length, HW0.out] at h1
        exact h1.symm
      have t0 : wr.cell? ⟨w1.heap.size, 0, none⟩ = some (.int .i64 m) := ((HBR.out.cell (p := ⟨w1.heap.size, 0, none⟩) HT3.out.lt)).trans (HT3.out.cellS rfl)
      subst hdc'
      subst him
      have hn0 : (i : Int) - (d : Int) - ((i : Int) - (d : Int)) = 0 := by omega
      go_wp2_with fail
      go_ret
      exact ⟨rfl, HB.out.trans (HB4.out.mono HB.out.size)⟩
end Go.Proofs.YtfoipadgicjcaaaDoor
