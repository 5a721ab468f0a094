/- RleCanon: the walk. -/
import Derived.Test.YtlcjadgaommfmaaDoorRlCanonW
import Derived.Test.YtlcjadgaommfmaaDoorRlLinesW
import Derived.Test.YtlcjadgaommfmaaDoorEqRule
namespace Go.Proofs.YtlcjadgaommfmaaDoor
open Go.RowKit

theorem rule_good {r : Int × Int} (h : r = (8, 12) ∨ ∃ t, (readR t).2.2 = 0 ∧ r = ((readR t).1, (readR t).2.1)) : goodR r.1 r.2 := by
  rcases h with rfl | ⟨t, h0, rfl⟩
  · unfold goodR; omega
  · rcases read_cases t with ⟨b, l, h1, h2, _⟩ | ⟨e, h1, h2⟩
    · rw [h1]; exact h2
    · rw [h1] at h0
      dsimp only at h0
      omega
set_option maxRecDepth 100000 in
set_option maxHeartbeats 6400000 in
theorem canon_any (w : World) (hG : RlG w.heap.size w) (s : List UInt8) (hl : s.length ≤ 9223372036854775807) :
    Calls Tryd.prog 3 #[.string (str s)] w fun e w' => e = .returned (.bool true) ∧ Below w.heap.size w w' := by
  have HG := Lib.hid hG
  obtain ⟨m, hm⟩ := hG.m
  have HD := Lib.hid (decode_any w m hm s hl)
  have HDI := Lib.hid (fun l r => dec_in (rd := readR) (s := s) (l := l) (r := r))
  have HDE := Lib.hid (fun l r e => dec_err (rd := readR) (s := s) (l := l) (r := r) (e := e))
  unfold DecPost at HD
  clear hG hl hm
  generalize decodeR readR s = dd at *
  obtain ⟨l, ⟨b, r⟩, e0⟩ := dd
  dsimp only at HD
  go_enter Tryd.func3, Tryd.ntmps3
  go_wp2_with fail
  (with_reducible refine HD.out.mono ?_)
  rintro e w1 ⟨v, rfl, hv, hnew, hb1⟩
  have HV := Lib.hid hv
  have HB1 := Lib.hid hb1
  obtain ⟨A, cap, rfl, hcap1, hcap2⟩ := hv.form
  clear hv hnew hb1
  by_cases h0 : e0 = 0
  · have he : (e0 == 0) = true := by simpa using h0
    subst h0
    have HDEC : Hid (DecI l) := (HDI.out l (b, r) rfl).1
    have HGD : Hid (goodR b r) := rule_good (HDI.out l (b, r) rfl).2
    clear HDI HDE HD hcap1 hcap2 he
    go_wp2_with fail
    have HB2 : Hid (Below w.heap.size w (w1.alloc (.cells #[.int .i64 b, .int .i64 r] 24))) := HB1.out.alloc HB1.out.size _
    have HX : Hid (Blk (w1.alloc (.cells #[.int .i64 b, .int .i64 r] 24)) w1.heap.size 24 #[.int .i64 b, .int .i64 r]) := Blk.new _ _ _
    have HV2 := Lib.hid (HV.out.alloc (.cells #[.int .i64 b, .int .i64 r] 24)).rd
    generalize w1.alloc (.cells #[.int .i64 b, .int .i64 r] 24) = w2 at *
    (with_reducible refine (encode_any w2 _ _ l HV2.out HDEC.out.few (decI_ok HDEC.out) b r HGD.out ((HG.out.below HB2.out).more HB2.out.size)).mono ?_)
    intro e w3 hq
    unfold EncPost at hq
    obtain ⟨tt, txt, rfl, htid, henc, htl, hb3⟩ := hq
    have HTID := Lib.hid htid
    have HENC := Lib.hid henc
    have HTL := Lib.hid htl
    have HB3 : Hid (Below w.heap.size w w3) := HB2.out.trans (hb3.mono HB2.out.size)
    have HX3 : Hid (Blk w3 w1.heap.size 24 #[.int .i64 b, .int .i64 r]) := HX.out.mod (Mod.of_below_all hb3) id
    clear htid henc htl hb3 HV HV2 HX HB2 HB1
    by_cases hlen : 20000 < txt.length
    · have hlen' : 20000 < (txt.length : Int) := by omega
      have hz : ((str txt).size : Int) = (txt.length : Int) := by rw [str_size]
      clear hlen
      go_wp2_with fail
      go_ret
      exact ⟨rfl, HB3.out⟩
    · have hlen' : ¬ 20000 < (txt.length : Int) := by omega
      have hz : ((str txt).size : Int) = (txt.length : Int) := by rw [str_size]
      have HCAN := Lib.hid (enc_canon HDEC.out HTID.out HGD.out (text_no HGD.out) HENC.out (by omega))
      clear hlen
      obtain ⟨m3, hm3⟩ := (HG.out.below HB3.out).m
      have HD3 := Lib.hid (decode_any w3 m3 hm3 txt (by have := HTL.out; omega))
      unfold DecPost at HD3
      obtain ⟨l2, hl2, hd2, hlast⟩ := HCAN.out
      rw [hl2] at HD3
      dsimp only at HD3
      have HDEC2 := Lib.hid hd2
      have HLAST := Lib.hid hlast
      clear hm3 hl2 hd2 hlast HCAN
      go_wp2_with fail
      (with_reducible refine HD3.out.mono ?_)
      rintro e w4 ⟨v4, rfl, hv4, hnew4, hb4⟩
      have HV4 := Lib.hid hv4
      have HB4 : Hid (Below w.heap.size w w4) := HB3.out.trans (hb4.mono HB3.out.size)
      have HX4 : Hid (Blk w4 w1.heap.size 24 #[.int .i64 b, .int .i64 r]) := HX3.out.mod (Mod.of_below_all hb4) id
      obtain ⟨A4, cap4, rfl, hcap1, hcap2⟩ := hv4.form
      clear hv4 hnew4 hb4 HX3 HB3 HD3 hcap1 hcap2
      go_wp2_with fail
      have HB5 : Hid (Below w.heap.size w (w4.alloc (.cells #[.int .i64 b, .int .i64 r] 24))) := HB4.out.alloc HB4.out.size _
      have HY : Hid (Blk (w4.alloc (.cells #[.int .i64 b, .int .i64 r] 24)) w4.heap.size 24 #[.int .i64 b, .int .i64 r]) := Blk.new _ _ _
      have HX5 := Lib.hid (HX4.out.alloc (.cells #[.int .i64 b, .int .i64 r] 24))
      have HV5 := Lib.hid (HV4.out.alloc (.cells #[.int .i64 b, .int .i64 r] 24)).rd
      generalize w4.alloc (.cells #[.int .i64 b, .int .i64 r] 24) = w5 at *
      (with_reducible refine (encode_any w5 _ _ l2 HV5.out HDEC2.out.few (decI_ok HDEC2.out) b r HGD.out ((HG.out.below HB5.out).more HB5.out.size)).mono ?_)
      intro e w6 hq
      unfold EncPost at hq
      obtain ⟨tt2, txt2, rfl, htid2, henc2, htl2, hb6⟩ := hq
      obtain rfl := HLAST.out tt2 txt2 htid2 henc2
      have HB6 : Hid (Below w.heap.size w w6) := HB5.out.trans (hb6.mono HB5.out.size)
      have HX6 : Hid (Blk w6 w1.heap.size 24 #[.int .i64 b, .int .i64 r]) := HX5.out.mod (Mod.of_below_all hb6) id
      have HY6 : Hid (Blk w6 w4.heap.size 24 #[.int .i64 b, .int .i64 r]) := HY.out.mod (Mod.of_below_all hb6) id
      obtain ⟨m6, hm6⟩ := (HG.out.below HB6.out).m
      have HWT := Lib.hid (writes_true w6 m6 hm6)
      clear hm6 htid2 henc2 htl2 hb6 HX5 HY HV5 HB5
      go_wp2_with fail
      (with_reducible refine HWT.out.mono ?_)
      rintro e w7 ⟨rfl, hb7⟩
      have HB7 : Hid (Below w.heap.size w w7) := HB6.out.trans (hb7.mono HB6.out.size)
      have HX7 : Hid (Blk w7 w1.heap.size 24 #[.int .i64 b, .int .i64 r]) := HX6.out.mod (Mod.of_below_all hb7) id
      have HY7 : Hid (Blk w7 w4.heap.size 24 #[.int .i64 b, .int .i64 r]) := HY6.out.mod (Mod.of_below_all hb7) id
      have x0 := HX7.out.cellS (i := 0) rfl
      have x1 := HX7.out.cellS (i := 1) rfl
      have y0 := HY7.out.cellS (i := 0) rfl
      have y1 := HY7.out.cellS (i := 1) rfl
      have hq := fun w => run_eqRule b r w
      clear hb7
      go_wp2_with fail
      go_ret
      exact ⟨rfl, HB7.out⟩
  · have he : (e0 == 0) = false := by simpa using h0
    have hln : l = [] := (HDE.out l (b, r) e0 rfl h0).1
    subst hln
    clear h0
    go_wp2_with fail
    have HB2 : Hid (Below w.heap.size w (w1.alloc (.cells #[.int .i64 b, .int .i64 r] 24))) := HB1.out.alloc HB1.out.size _
    generalize w1.alloc (.cells #[.int .i64 b, .int .i64 r] 24) = w2 at *
    obtain ⟨m1, hm1⟩ := (HG.out.below HB2.out).m
    (with_reducible refine (writes_true w2 m1 hm1).mono ?_)
    rintro e w3 ⟨rfl, hb3⟩
    have HB3 : Hid (Below w.heap.size w w3) := HB2.out.trans (hb3.mono HB2.out.size)
    clear hb3 hm1
    go_wp2_with fail
    go_ret
    exact ⟨rfl, HB3.out⟩
end Go.Proofs.YtlcjadgaommfmaaDoor
