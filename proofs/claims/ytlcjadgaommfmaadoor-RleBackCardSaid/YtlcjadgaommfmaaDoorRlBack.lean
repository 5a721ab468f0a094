/- RleBack: the walk. -/
import Derived.Test.YtlcjadgaommfmaaDoorRlCanon
import Derived.Test.YtlcjadgaommfmaaDoorShift
namespace Go.Proofs.YtlcjadgaommfmaaDoor
open Go.RowKit

theorem slBelow {w w1 : World} {t : TypeId} {sz n : Nat} {v : Value} {xs : List Value} (h : Sl w t sz v n xs) (hb : Below w.heap.size w w1) : Sl w1 t sz v n xs := h.mod (Mod.of_below_all hb) (fun _ _ h => h)
theorem okC_some {l : List (Int × Int)} {most : Nat} {near : Int} (h : 0 < near) (h2 : near ≤ 549755813888) : ∀ c ∈ someL l most near, okC c := fun c hc => some_ok h h2 hc
/-- What is written of cells is read as these, moved to the corner. -/
theorem back_plain {l t : List (Int × Int)} {b r : Int} {txt : List UInt8} (ht : Tid l t) (hg : goodR b r) (he : EncIs t (textL b r) txt) (hlen : txt.length ≤ 20000) (hn : l.length ≤ 4096) (hok : ∀ c ∈ l, (-1073741824 ≤ c.1 ∧ c.1 < 1073741824) ∧ (-1073741824 ≤ c.2 ∧ c.2 < 1073741824)) :
    (t = [] ∧ decodeR readR txt = ([], (b, r), 0)) ∨ ∃ x0 y0 x1 y1, t ≠ [] ∧ IsBox t x0 y0 x1 y1 ∧ decodeR readR txt = (t.map (shC (-x0) (-y0)), (b, r), 0) := by
  have hnl := text_no hg
  have hl := tid_length ht
  rcases he with ⟨rfl, rfl⟩ | ⟨x0, y0, x1, y1, hne, hb, rfl⟩
  · exact .inl ⟨rfl, dec_back readR [] 0 0 0 0 (textL b r) b r (read_text hg) hnl (by decide) (by decide) ht.1 (fun c hc => by cases hc) (by decide) hlen⟩
  · refine .inr ⟨x0, y0, x1, y1, hne, hb, ?_⟩
    have hin : ∀ c ∈ t, (x0 ≤ c.1 ∧ c.1 - x0 < (((x1 - x0 + 1).toNat : Nat) : Int)) ∧ (y0 ≤ c.2 ∧ c.2 - y0 < (((y1 - y0 + 1).toNat : Nat) : Int)) := fun c hc => by
      have h1 := hb.1.2 c hc
      have h2 := hb.2.1.2 c hc
      have h3 := hb.2.2.1.2 c hc
      have h4 := hb.2.2.2.2 c hc
      omega
    have hW : (x1 - x0 + 1).toNat < 1000000000000 ∧ (y1 - y0 + 1).toNat < 1000000000000 := by
      obtain ⟨⟨⟨a, a1, a2⟩, _⟩, ⟨⟨c, c1, c2⟩, _⟩, ⟨⟨d, d1, d2⟩, _⟩, ⟨e, e1, e2⟩, _⟩ := hb
      have := hok a ((ht.2 a).1 a1)
      have := hok c ((ht.2 c).1 c1)
      have := hok d ((ht.2 d).1 d1)
      have := hok e ((ht.2 e).1 e1)
      omega
    have hd := dec_back readR t x0 y0 _ _ (textL b r) b r (read_text hg) hnl hW.1 hW.2 ht.1 hin (by omega) hlen
    rw [hd]
    have : (fun c : Int × Int => (c.1 - x0, c.2 - y0)) = shC (-x0) (-y0) := by
      funext c; unfold shC; apply Prod.ext <;> dsimp only <;> omega
    rw [this]
set_option maxRecDepth 100000 in
set_option maxHeartbeats 6400000 in
theorem rlback_any (w : World) (hG : RlG w.heap.size w) (n : Nat) (v : Value) (l : List (Int × Int)) (h : Rd w w.heap.size 2 v n (flat l)) (hin : ∀ c ∈ l, inC c) (b r : Int) (hb : -9223372036854775808 ≤ b ∧ b ≤ 9223372036854775807) (hr : -9223372036854775808 ≤ r ∧ r ≤ 9223372036854775807) :
    Calls Tryd.prog 5 #[v, .agg #[.int .i64 b, .int .i64 r]] w fun e w' => e = .returned (.bool true) ∧ Below w.heap.size w w' := by
  have HG := Lib.hid hG
  have hb0 : Below w.heap.size w (w.alloc (.cells #[.int .i64 b, .int .i64 r] 24)) := (Below.refl _ _).alloc (Nat.le_refl _) _
  have hr0 : Blk (w.alloc (.cells #[.int .i64 b, .int .i64 r] 24)) w.heap.size 24 #[.int .i64 b, .int .i64 r] := Blk.new w _ _
  have HS : Hid (∀ w', Below (w.alloc (.cells #[.int .i64 b, .int .i64 r] 24)).heap.size (w.alloc (.cells #[.int .i64 b, .int .i64 r] 24)) w' → Calls Tryd.prog 9 #[v, .int .i64 400, .int .i64 1073741824] w' (SomePost w' n 400 l 1073741824)) := fun w' hb' =>
    some_lit w' n 400 400 rfl v l 1073741824 ((h.below (hb0.trans (hb'.mono hb0.size))).more (Nat.le_trans hb0.size hb'.size)) hin (by decide) (by decide) (by decide)
  unfold SomePost at HS
  have HR := Lib.hid (fun w => right_any w b r hb hr)
  have HGD := Lib.hid (right_good b r)
  have HB0 := Lib.hid hb0
  have HR0 := Lib.hid hr0
  have r0 := hr0.cellS (i := 0) rfl
  have r1 := hr0.cellS (i := 1) rfl
  clear h hin hb hr hG hb0 hr0
  go_enter Tryd.func5, Tryd.ntmps5
  go_wp2_with fail
  generalize hw0 : w.alloc (.cells #[.int .i64 b, .int .i64 r] 24) = w0 at *
  have HLT : Hid (w.heap.size < w0.heap.size) := by show _ < _; rw [← hw0, World.size_alloc]; omega
  clear r0 r1 hw0
  (with_reducible refine (HR.out w0).mono ?_)
  rintro e w1 ⟨rfl, hb1⟩
  have HB1 : Hid (Below w.heap.size w w1) := HB0.out.trans (hb1.mono HB0.out.size)
  have HR1 : Hid (Blk w1 w.heap.size 24 #[.int .i64 b, .int .i64 r]) := HR0.out.mod (Mod.of_below_all hb1) id
  have HS1 := Lib.hid (HS.out w1 hb1)
  clear HS HR hb1 HR0
  generalize rightB b = rb at *
  generalize rightL r = rl at *
  go_wp2_with fail
  (with_reducible refine HS1.out.mono ?_)
  rintro e w2 ⟨v2, rfl, hs2, hn2, hb2⟩
  have HSL := Lib.hid hs2
  have HNE : Hid (sblk v2 ≠ some w.heap.size) := fun e => by have := hn2 _ e; have h1 := HR1.out.lt; omega
  have HB2 : Hid (Below w.heap.size w w2) := HB1.out.trans (hb2.mono HB1.out.size)
  have HR2 : Hid (Blk w2 w.heap.size 24 #[.int .i64 b, .int .i64 r]) := HR1.out.mod (Mod.of_below_all hb2) id
  obtain ⟨A2, cap2, rfl, hc1, hc2⟩ := hs2.form
  have c0 := HR2.out.cellS (i := 0) rfl
  have c1 := HR2.out.cellS (i := 1) rfl
  have f0 := HR2.out.frozen 0
  have f1 := HR2.out.frozen 1
  clear hs2 hn2 hb2 HS1
  go_wp2_with fail
  obtain ⟨w3, hw3⟩ : ∃ w3, (w2.setCell ⟨w.heap.size, 0, none⟩ (.int .i64 rb)).setCell ⟨w.heap.size, 1, none⟩ (.int .i64 rl) = w3 := ⟨_, rfl⟩
  have HR3 : Hid (Blk w3 w.heap.size 24 #[.int .i64 rb, .int .i64 rl]) := by subst hw3; exact (HR2.out.set 0 _).set 1 _
  have HB3 : Hid (Below w.heap.size w w3) := by subst hw3; exact (HB2.out.setCell (p := ⟨w.heap.size, 0, none⟩) (Nat.le_refl _) _).setCell (p := ⟨w.heap.size, 1, none⟩) (Nat.le_refl _) _
  have HSL3 : Hid (Sl w3 50 2 (.slice A2 (min 400 n) cap2) (min 400 n) (flat (someL l 400 1073741824))) := by subst hw3; exact (HSL.out.far (p := ⟨w.heap.size, 0, none⟩) HNE.out _).far (p := ⟨w.heap.size, 1, none⟩) HNE.out _
  rw [hw3]
  have HL : Hid (∀ c ∈ someL l 400 1073741824, (-1073741824 ≤ c.1 ∧ c.1 < 1073741824) ∧ (-1073741824 ≤ c.2 ∧ c.2 < 1073741824)) := fun c hc => someL_near (by decide) hc
  have HOK : Hid (∀ c ∈ someL l 400 1073741824, okC c) := fun c hc => some_ok (by decide) (by decide) hc
  have hm : min 400 n ≤ 400 := by omega
  have HML : Hid ((someL l 400 1073741824).length = min 400 n) := HSL3.out.rd.pairs.1
  clear c0 c1 f0 f1 HSL HR2 HB2 HR1 HB1 HNE HLT HB0 hw3 hc1 hc2
  generalize min 400 n = m at *
  generalize someL l 400 1073741824 = L at *
  have HMN := Lib.hid hm
  (with_reducible refine (encode_any w3 m _ L HSL3.out.rd (by omega) HOK.out rb rl HGD.out ((HG.out.below HB3.out).more HB3.out.size)).mono ?_)
  clear hm
  intro e w4 hq
  unfold EncPost at hq
  obtain ⟨tt, txt, rfl, htid, henc, htl, hb4⟩ := hq
  have HTID := Lib.hid htid
  have HENC := Lib.hid henc
  have HTL := Lib.hid htl
  have HB4 : Hid (Below w.heap.size w w4) := HB3.out.trans (hb4.mono HB3.out.size)
  have HR4 : Hid (Blk w4 w.heap.size 24 #[.int .i64 rb, .int .i64 rl]) := HR3.out.mod (Mod.of_below_all hb4) id
  have HSL4 : Hid (Sl w4 50 2 (.slice A2 m cap2) m (flat L)) := slBelow HSL3.out hb4
  clear htid henc htl hb4 HR3 HSL3 HB3
  have HWT : Hid (∀ w', Below w.heap.size w w' → Calls Tryd.prog 7 #[] w' fun e w'' => e = .returned (.bool true) ∧ Below w'.heap.size w' w'') := fun w' h => by
    obtain ⟨m1, hm1⟩ := (HG.out.below h).m
    exact writes_true w' m1 hm1
  by_cases hlen : 20000 < txt.length
  · have hlen' : 20000 < (txt.length : Int) := by omega
    have hz : ((str txt).size : Int) = (txt.length : Int) := by rw [str_size]
    clear hlen
    go_wp2_with fail
    (with_reducible refine (HWT.out w4 HB4.out).mono ?_)
    rintro e w5 ⟨rfl, hb5⟩
    have HB5 : Hid (Below w.heap.size w w5) := HB4.out.trans (hb5.mono HB4.out.size)
    clear hb5
    go_wp2_with fail
    go_ret
    exact ⟨rfl, HB5.out⟩
  · have hlen' : ¬ 20000 < (txt.length : Int) := by omega
    have hz : ((str txt).size : Int) = (txt.length : Int) := by rw [str_size]
    have HBK := Lib.hid (back_plain HTID.out HGD.out HENC.out (by omega) (by have := HML.out; have := HMN.out; omega) HL.out)
    obtain ⟨m4, hm4⟩ := (HG.out.below HB4.out).m
    have HD4 := Lib.hid (decode_any w4 m4 hm4 txt (by have := HTL.out; omega))
    have HDI := Lib.hid (fun l r => dec_in (rd := readR) (s := txt) (l := l) (r := r))
    unfold DecPost at HD4
    clear hlen hm4 HENC
    generalize hdec : decodeR readR txt = dd at *
    obtain ⟨l2, ⟨b2, r2⟩, e2⟩ := dd
    have HB2 : Hid (b2 = rb ∧ r2 = rl ∧ e2 = 0) := by
      rcases HBK.out with ⟨_, h⟩ | ⟨x0, y0, x1, y1, _, _, h⟩ <;> (injection h with h1 h2; injection h2 with h2 h3; injection h2 with h4 h5; exact ⟨h4, h5, h3⟩)
    obtain ⟨rfl, rfl, rfl⟩ := HB2.out
    have HDEC : Hid (DecI l2) := (HDI.out l2 (b2, r2) rfl).1
    dsimp only at HD4
    clear hdec HDI HB2
    go_wp2_with fail
    (with_reducible refine HD4.out.mono ?_)
    rintro e w5 ⟨v5, rfl, hv5, hnew5, hb5⟩
    have HV5 := Lib.hid hv5
    have HB5 : Hid (Below w.heap.size w w5) := HB4.out.trans (hb5.mono HB4.out.size)
    have HR5 : Hid (Blk w5 w.heap.size 24 #[.int .i64 b2, .int .i64 r2]) := HR4.out.mod (Mod.of_below_all hb5) id
    have HSL5 : Hid (Sl w5 50 2 (.slice A2 m cap2) m (flat L)) := slBelow HSL4.out hb5
    obtain ⟨A5, cap5, rfl, hc1, hc2⟩ := hv5.form
    clear hv5 hnew5 hb5 HD4 HR4 HSL4 HB4
    go_wp2_with fail
    have hba : Below w5.heap.size w5 (w5.alloc (.cells #[.int .i64 b2, .int .i64 r2] 24)) := (Below.refl _ _).alloc (Nat.le_refl _) _
    have HX6 : Hid (Blk (w5.alloc (.cells #[.int .i64 b2, .int .i64 r2] 24)) w5.heap.size 24 #[.int .i64 b2, .int .i64 r2]) := Blk.new _ _ _
    have HB6 : Hid (Below w.heap.size w (w5.alloc (.cells #[.int .i64 b2, .int .i64 r2] 24))) := HB5.out.trans (hba.mono HB5.out.size)
    have HR6 := Lib.hid (HR5.out.mod (Mod.of_below_all hba) id)
    have HSL6 := Lib.hid (slBelow HSL5.out hba)
    have HV6 := Lib.hid (slBelow HV5.out hba)
    clear hba
    generalize w5.alloc (.cells #[.int .i64 b2, .int .i64 r2] 24) = w6 at *
    (with_reducible refine (tidy_ok w6 w6.heap.size m _ L HSL6.out.rd (Nat.le_refl _) (by have := HMN.out; omega) HOK.out).mono ?_)
    intro e w7 hq
    unfold TidyPost at hq
    obtain ⟨A7, m7, t7, rfl, htid7, hs7, hn7, hb7⟩ := hq
    obtain rfl := htid7.unique HTID.out
    have HS7 := Lib.hid hs7
    have HB7 : Hid (Below w.heap.size w w7) := HB6.out.trans (hb7.mono HB6.out.size)
    have HR7 := Lib.hid (HR6.out.mod (Mod.of_below_all hb7) id)
    have HX7 := Lib.hid (HX6.out.mod (Mod.of_below_all hb7) id)
    have HV7 := Lib.hid (slBelow HV6.out hb7)
    clear htid7 hs7 hn7 hb7 HR6 HX6 HV6 HSL6 HB6 HR5 HV5 HSL5
    go_wp2_with fail
    (with_reducible refine (box_any w7 A7 m7 t7 HS7.out).mono ?_)
    rintro e w8 ⟨x0, y0, x1, y1, ok, rfl, hbx, hb8⟩
    have HB8 : Hid (Below w.heap.size w w8) := HB7.out.trans (hb8.mono HB7.out.size)
    have HR8 := Lib.hid (HR7.out.mod (Mod.of_below_all hb8) id)
    have HX8 := Lib.hid (HX7.out.mod (Mod.of_below_all hb8) id)
    have HV8 := Lib.hid (slBelow HV7.out hb8)
    have HS8 := Lib.hid (slBelow HS7.out hb8)
    have HBX := Lib.hid hbx
    clear hbx hb8 HB7 HR7 HX7 HV7 HS7
    obtain ⟨w9, hw9⟩ : ∃ w9, w8.alloc (.cells #[.int .i64 x0, .int .i64 y0, .int .i64 x1, .int .i64 y1] 38) = w9 := ⟨_, rfl⟩
    have hb9 : Below w8.heap.size w8 w9 := by subst hw9; exact (Below.refl _ _).alloc (Nat.le_refl _) _
    have HB9 : Hid (Below w.heap.size w w9) := HB8.out.trans (hb9.mono HB8.out.size)
    have HR9 := Lib.hid (HR8.out.mod (Mod.of_below_all hb9) id)
    have HX9 := Lib.hid (HX8.out.mod (Mod.of_below_all hb9) id)
    have HV9 := Lib.hid (slBelow HV8.out hb9)
    have HS9 := Lib.hid (slBelow HS8.out hb9)
    have HP9 : Hid (Blk w9 w8.heap.size 38 #[.int .i64 x0, .int .i64 y0, .int .i64 x1, .int .i64 y1]) := by subst hw9; exact Blk.new _ _ _
    clear hb9 HR8 HX8 HV8 HS8
    have hq := fun w => run_eqRule b2 r2 w
    rcases HBK.out with ⟨rfl, hdd⟩ | ⟨p0, q0, p1, q1, hne, hbox, hdd⟩
    · injection hdd with hl2 _
      subst hl2
      obtain rfl : ok = false := by
        rcases HBX.out with ⟨h1, _⟩ | ⟨_, h, _⟩
        · exact h1
        · exact absurd rfl h
      go_wp2_with fail
      clear hw9
      (with_reducible refine (HWT.out w9 HB9.out).mono ?_)
      rintro e w10 ⟨rfl, hb10⟩
      have HB10 : Hid (Below w.heap.size w w10) := HB9.out.trans (hb10.mono HB9.out.size)
      have HR10 := Lib.hid (HR9.out.mod (Mod.of_below_all hb10) id)
      have HX10 := Lib.hid (HX9.out.mod (Mod.of_below_all hb10) id)
      have d0 := HX10.out.cellS (i := 0) rfl
      have d1 := HX10.out.cellS (i := 1) rfl
      have c0 := HR10.out.cellS (i := 0) rfl
      have c1 := HR10.out.cellS (i := 1) rfl
      clear hb10
      go_wp2_with fail
      go_ret
      exact ⟨rfl, HB10.out⟩
    · injection hdd with hl2 _
      subst hl2
      obtain ⟨rfl, hbx⟩ : ok = true ∧ IsBox t7 x0 y0 x1 y1 := by
        rcases HBX.out with ⟨_, h, _⟩ | ⟨h1, _, h2⟩
        · exact absurd h hne
        · exact ⟨h1, h2⟩
      obtain ⟨rfl, rfl, rfl, rfl⟩ := isBox_unique hbx hbox
      obtain ⟨g1, g2, g3, g4⟩ : (-1073741824 ≤ x0 ∧ x0 < 1073741824) ∧ (-1073741824 ≤ y0 ∧ y0 < 1073741824) ∧ True ∧ True := by
        obtain ⟨⟨⟨p, p1, rfl⟩, p3⟩, ⟨⟨q, q1, rfl⟩, q3⟩, _⟩ := hbx
        exact ⟨(HL.out p ((HTID.out.2 p).1 p1)).1, (HL.out q ((HTID.out.2 q).1 q1)).2, trivial, trivial⟩
      obtain ⟨g1, g5⟩ := g1
      obtain ⟨g2, g6⟩ := g2
      have b0 := HP9.out.cellS (i := 0) rfl
      have b1 := HP9.out.cellS (i := 1) rfl
      subst hw9
      have HSH : Hid (Calls Tryd.prog 13 #[.slice A7 m7 m7, .int .i64 (-x0), .int .i64 (-y0)] _ (TidyPost _ (t7.map (shC (-x0) (-y0))))) :=
        shift_ok (w8.alloc (.cells #[.int .i64 x0, .int .i64 y0, .int .i64 x1, .int .i64 y1] 38)) m7 _ t7 (-x0) (-y0) HS9.out.rd (by have e1 := HS9.out.rd.pairs.1; have e2 := tid_length HTID.out; have e3 := HML.out; have e4 := HMN.out; omega) (fun c hc => HOK.out c ((HTID.out.2 c).1 hc))
          (fun c hc => by
            have := HDEC.out.fits (shC (-x0) (-y0) c) (List.mem_map.2 ⟨c, hc, rfl⟩)
            unfold okC okZ
            omega) (by omega) (by omega) (by omega) (by omega)
      clear g3 g4 hbx hbox
      go_wp2_with fail
      generalize w8.alloc (.cells #[.int .i64 x0, .int .i64 y0, .int .i64 x1, .int .i64 y1] 38) = w9 at *
      (with_reducible refine HSH.out.mono ?_)
      intro e w10 hq
      unfold TidyPost at hq
      obtain ⟨A10, m10, t10, rfl, htid10, hs10, hn10, hb10⟩ := hq
      obtain rfl : t10 = t7.map (shC (-x0) (-y0)) := tid_self HDEC.out htid10
      have HB10 : Hid (Below w.heap.size w w10) := HB9.out.trans (hb10.mono HB9.out.size)
      have HR10 := Lib.hid (HR9.out.mod (Mod.of_below_all hb10) id)
      have HX10 := Lib.hid (HX9.out.mod (Mod.of_below_all hb10) id)
      have HV10 := Lib.hid (slBelow HV9.out hb10)
      have HS10 := Lib.hid hs10
      clear hb10 hs10 hn10 htid10 b0 b1 HSH
      go_wp2_with fail
      (with_reducible refine (HWT.out w10 HB10.out).mono ?_)
      rintro e w11 ⟨rfl, hb11⟩
      have HB11 : Hid (Below w.heap.size w w11) := HB10.out.trans (hb11.mono HB10.out.size)
      have HR11 := Lib.hid (HR10.out.mod (Mod.of_below_all hb11) id)
      have HX11 := Lib.hid (HX10.out.mod (Mod.of_below_all hb11) id)
      have HV11 := Lib.hid (slBelow HV10.out hb11)
      have HS11 := Lib.hid (slBelow HS10.out hb11)
      have d0 := HX11.out.cellS (i := 0) rfl
      have d1 := HX11.out.cellS (i := 1) rfl
      have c0 := HR11.out.cellS (i := 0) rfl
      have c1 := HR11.out.cellS (i := 1) rfl
      have HM10 : Hid ((t7.map (shC (-x0) (-y0))).length = m10) := HS11.out.rd.pairs.1
      clear hb11
      go_wp2_with fail
      have HV12 : Hid (Rd w11 w11.heap.size 2 (.slice A5 t7.length cap5) m10 (flat (t7.map (shC (-x0) (-y0))))) := by
        have h := HV11.out.rd
        rw [HM10.out] at h
        have e := HM10.out
        rw [List.length_map] at e
        rw [e]
        exact h
      (with_reducible refine (same_true w11 w11.heap.size w11.heap.size m10 _ _ (t7.map (shC (-x0) (-y0))) HV12.out HS11.out.rd).mono ?_)
      rintro e w12 ⟨rfl, d, rfl⟩
      go_wp2
      go_ret
      exact ⟨rfl, below_drewN HB11.out _⟩
end Go.Proofs.YtlcjadgaommfmaaDoor
