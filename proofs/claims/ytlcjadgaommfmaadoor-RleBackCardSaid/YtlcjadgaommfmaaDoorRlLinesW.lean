/- RleLines: the walk. -/
import Derived.Test.YtlcjadgaommfmaaDoorRlEnc
import Derived.Test.YtlcjadgaommfmaaDoorRlLaw
import Derived.Test.YtlcjadgaommfmaaDoorSome
import Derived.Test.YtlcjadgaommfmaaDoorRight
namespace Go.Proofs.YtlcjadgaommfmaaDoor
open Go.RowKit

theorem digs_no : ∀ b : Fin 512, (10 : UInt8) ∉ digs ((b.val : Nat) : Int) 9 := by decide +kernel
theorem text_no {b r : Int} (h : goodR b r) : (10 : UInt8) ∉ textL b r := by
  obtain ⟨⟨b0, b1⟩, ⟨r0, r1⟩, _⟩ := h
  obtain ⟨n, rfl⟩ := Int.eq_ofNat_of_zero_le b0
  obtain ⟨k, rfl⟩ := Int.eq_ofNat_of_zero_le r0
  have h1 := digs_no ⟨n, by omega⟩
  have h2 := digs_no ⟨k, by omega⟩
  unfold textL
  simp only [List.mem_cons, List.mem_append]
  rintro (h | h | h | h | h)
  · exact absurd h (by decide)
  · exact h1 h
  · exact absurd h (by decide)
  · exact absurd h (by decide)
  · exact h2 h
theorem str_get (s : List UInt8) (i : Nat) (h : i < s.length) : (str s).data[i]? = s[i]? := by simp [str]
theorem some_ok {l : List (Int × Int)} {most : Nat} {near : Int} (h : 0 < near) (h2 : near ≤ 549755813888) {c : Int × Int} (hc : c ∈ someL l most near) : okC c := by
  have := someL_near h hc
  unfold okC okZ
  omega
theorem enc_of {w w0 w2 w3 : World} {n : Nat} {v2 : Value} {l : List (Int × Int)} {b r : Int} (hG : RlG w.heap.size w) (h0 : Below w.heap.size w w0) (h2 : Below w0.heap.size w0 w2) (h3 : Below w2.heap.size w2 w3)
    (hs : Sl w2 50 2 v2 n (flat l)) (hn : n ≤ 4096) (hok : ∀ c ∈ l, okC c) (hg : goodR b r) :
    ∀ w', Below w3.heap.size w3 w' → Calls Tryd.prog 8 #[v2, .agg #[.int .i64 b, .int .i64 r]] w' (EncPost w' l (textL b r)) := fun w' h' => by
  have hb3 : Below w.heap.size w w3 := (h0.trans (h2.mono h0.size)).trans (h3.mono (Nat.le_trans h0.size h2.size))
  have hb' := hb3.trans (h'.mono hb3.size)
  have hsl := ((hs.mod (Mod.of_below_all h3) (fun _ _ x => x)).mod (Mod.of_below_all h') (fun _ _ x => x)).rd
  exact encode_any w' n v2 l hsl hn hok b r hg ((hG.below hb').more hb'.size)
theorem lines_of {l t : List (Int × Int)} {tx txt : List UInt8} (ht : Tid l t) (he : EncIs t tx txt) (hnl : (10 : UInt8) ∉ tx) (hn : l.length ≤ 4096) (hin : ∀ c ∈ l, (-549755813888 ≤ c.1 ∧ c.1 < 549755813888) ∧ (-549755813888 ≤ c.2 ∧ c.2 < 549755813888)) : lineOK txt 0 true := by
  have hl := tid_length ht
  rcases he with ⟨rfl, rfl⟩ | ⟨x0, y0, x1, y1, _, hb, rfl⟩
  · exact lines_enc [] 0 0 0 0 tx hnl (fun c hc => by cases hc) (by decide)
  · obtain ⟨⟨⟨a, a1, a2⟩, a3⟩, ⟨⟨b, b1, b2⟩, b3⟩, _⟩ := hb
    have h1 := (hin a ((ht.2 a).1 a1)).1
    have h2 := (hin b ((ht.2 b).1 b1)).2
    refine lines_enc t x0 y0 _ _ tx hnl (fun c hc => ?_) (by omega)
    have h3 := hin c ((ht.2 c).1 hc)
    have h4 := a3 c hc
    have h5 := b3 c hc
    omega
theorem enc_some {w w0 w2 w3 : World} {n most : Nat} {v2 : Value} {l : List (Int × Int)} {near : Int} {b r : Int} (hG : RlG w.heap.size w) (h0 : Below w.heap.size w w0) (h2 : Below w0.heap.size w0 w2) (h3 : Below w2.heap.size w2 w3)
    (hs : Sl w2 50 2 v2 (min most n) (flat (someL l most near))) (hm : most ≤ 4096) (hn : 0 < near) (hn2 : near ≤ 549755813888) (hg : goodR b r) :
    ∀ w', Below w3.heap.size w3 w' → Calls Tryd.prog 8 #[v2, .agg #[.int .i64 b, .int .i64 r]] w' (EncPost w' (someL l most near) (textL b r)) :=
  enc_of hG h0 h2 h3 hs (by omega) (fun c hc => some_ok hn hn2 hc) hg
set_option maxRecDepth 100000 in
set_option maxHeartbeats 6400000 in
theorem lines_any (w : World) (hG : RlG w.heap.size w) (n : Nat) (v : Value) (l : List (Int × Int)) (h : Rd w w.heap.size 2 v n (flat l)) (hin : ∀ c ∈ l, inC c) (b r : Int) (hb : -9223372036854775808 ≤ b ∧ b ≤ 9223372036854775807) (hr : -9223372036854775808 ≤ r ∧ r ≤ 9223372036854775807) :
    Calls Tryd.prog 4 #[v, .agg #[.int .i64 b, .int .i64 r]] w fun e w' => e = .returned (.bool true) ∧ Below w.heap.size w w' := by
  have HG := Lib.hid hG
  have hb0 : Below w.heap.size w (w.alloc (.cells #[.int .i64 b, .int .i64 r] 24)) := (Below.refl _ _).alloc (Nat.le_refl _) _
  have hr0 : Blk (w.alloc (.cells #[.int .i64 b, .int .i64 r] 24)) w.heap.size 24 #[.int .i64 b, .int .i64 r] := Blk.new w _ _
  have HS : Hid (∀ w', Below (w.alloc (.cells #[.int .i64 b, .int .i64 r] 24)).heap.size (w.alloc (.cells #[.int .i64 b, .int .i64 r] 24)) w' → Calls Tryd.prog 9 #[v, .int .i64 1000, .int .i64 549755813888] w' (SomePost w' n 1000 l 549755813888)) := fun w' hb' =>
    some_lit w' n 1000 1000 rfl v l 549755813888 ((h.below (hb0.trans (hb'.mono hb0.size))).more (Nat.le_trans hb0.size hb'.size)) hin (by decide) (by decide) (by decide)
  unfold SomePost at HS
  have HR := Lib.hid (fun w => right_any w b r hb hr)
  have HB0 := Lib.hid hb0
  have HR0 := Lib.hid hr0
  have r0 := hr0.cellS (i := 0) rfl
  have r1 := hr0.cellS (i := 1) rfl
  have HGD := Lib.hid (right_good b r)
  clear h hin hb hr hG hb0 hr0
  go_enter Tryd.func4, Tryd.ntmps4
  go_wp2_with fail
  generalize hw0 : w.alloc (.cells #[.int .i64 b, .int .i64 r] 24) = w0 at *
  have HBR : Hid (Below w0.heap.size w0 w0) := Below.refl _ _
  have hlt : w.heap.size < w0.heap.size := by rw [← hw0, World.size_alloc]; omega
  go_region_held3 (fun w' => w'.cell? ⟨w.heap.size, 0, none⟩ = some (.int .i64 b) ∧ w'.cell? ⟨w.heap.size, 1, none⟩ = some (.int .i64 r)) (first | exact hk4 | exact hk3 | exact hk2 | exact ⟨r0, r1⟩)
    (first
      | (go_at_call 9; refine (HS.out _ (by exact ⟨HBR.out.os, HBR.out.tape, HBR.out.output, HBR.out.size, HBR.out.block⟩)).mono ?_; rintro e w2 ⟨v2, rfl, hsl, hnew, hb2⟩; have HB2 : Hid (Below w0.heap.size w0 w2) := (show Below w0.heap.size w0 w2 from ⟨hb2.os, hb2.tape, hb2.output, hb2.size, hb2.block⟩); have hk2 : w2.cell? ⟨w.heap.size, 0, none⟩ = some (.int .i64 b) ∧ w2.cell? ⟨w.heap.size, 1, none⟩ = some (.int .i64 r) := ⟨(HB2.out.cell (p := ⟨w.heap.size, 0, none⟩) hlt).trans r0, (HB2.out.cell (p := ⟨w.heap.size, 1, none⟩) hlt).trans r1⟩)
      | (go_at_call 10; refine (HR.out _).mono ?_; rintro e w3 ⟨rfl, hb3⟩; have HB3 : Hid (Below w2.heap.size w2 w3) := (show Below w2.heap.size w2 w3 from ⟨hb3.os, hb3.tape, hb3.output, hb3.size, hb3.block⟩); have hk3 : w3.cell? ⟨w.heap.size, 0, none⟩ = some (.int .i64 b) ∧ w3.cell? ⟨w.heap.size, 1, none⟩ = some (.int .i64 r) := ⟨(HB3.out.cell (p := ⟨w.heap.size, 0, none⟩) (Nat.lt_of_lt_of_le hlt HB2.out.size)).trans hk2.1, (HB3.out.cell (p := ⟨w.heap.size, 1, none⟩) (Nat.lt_of_lt_of_le hlt HB2.out.size)).trans hk2.2⟩)
      | (go_at_call 8; have HE := Lib.hid (enc_some HG.out HB0.out HB2.out HB3.out hsl (by decide) (by decide) (by decide) HGD.out); have HR3 : Hid (Below w3.heap.size w3 w3) := Below.refl _ _; refine (HE.out _ (by exact ⟨HR3.out.os, HR3.out.tape, HR3.out.output, HR3.out.size, HR3.out.block⟩)).mono ?_; intro e w4 hq; unfold EncPost at hq; obtain ⟨tt, txt, rfl, htid, henc, htl, hb4⟩ := hq; have HB4 : Hid (Below w3.heap.size w3 w4) := (show Below w3.heap.size w3 w4 from ⟨hb4.os, hb4.tape, hb4.output, hb4.size, hb4.block⟩); have hk4 : w4.cell? ⟨w.heap.size, 0, none⟩ = some (.int .i64 b) ∧ w4.cell? ⟨w.heap.size, 1, none⟩ = some (.int .i64 r) := ⟨(HB4.out.cell (p := ⟨w.heap.size, 0, none⟩) (Nat.lt_of_lt_of_le hlt (Nat.le_trans HB2.out.size HB3.out.size))).trans hk3.1, (HB4.out.cell (p := ⟨w.heap.size, 1, none⟩) (Nat.lt_of_lt_of_le hlt (Nat.le_trans HB2.out.size HB3.out.size))).trans hk3.2⟩))
  have HTL : Hid (txt.length ≤ 300000) := htl
  have HLO : Hid (lineOK txt 0 true) := lines_of htid henc (text_no HGD.out) (by simp [someL]; omega) (fun c hc => someL_near (by decide) hc)
  have HB5 : Hid (Below w.heap.size w w4) := ((HB0.out.trans (HB2.out.mono HB0.out.size)).trans (HB3.out.mono (Nat.le_trans HB0.out.size HB2.out.size))).trans (HB4.out.mono (Nat.le_trans HB0.out.size (Nat.le_trans HB2.out.size HB3.out.size)))
  have hz : ((str txt).size : Int) = (txt.length : Int) := by rw [str_size]
  clear hk2 hk3 hk4 r0 r1 hsl hnew htid henc hb2 hb3 hb4 htl HS
  go_wp2_with fail
  go_loopw [7, 8, 9] (fun nv fv iv wx => ∃ (k c : Nat) (fst : Bool), k ≤ txt.length ∧ iv = .int .i64 k ∧ nv = .int .i64 c ∧ fv = .bool fst ∧ lineOK (txt.drop k) c fst ∧ c ≤ k ∧ Below w.heap.size w wx) (fun _ _ iv _ => txt.length - (intOf iv).toNat)
  case atStart => exact ⟨0, 0, true, Nat.zero_le _, rfl, rfl, rfl, HLO.out, Nat.le_refl _, HB5.out⟩
  case round =>
    obtain ⟨k, c, fst, hk, rfl, rfl, rfl, hlo, hck, hbw⟩ := hrel
    have HBW := Lib.hid hbw
    have HCK := Lib.hid hck
    have htl := HTL.out
    have hcl : (c : Int) ≤ 300000 := by omega
    by_cases hlt : k < txt.length
    · have hdr : txt.drop k = txt[k] :: txt.drop (k + 1) := List.drop_eq_getElem_cons hlt
      have hidx : ∀ w : World, (Instr.index 9 (.string (str txt)) (.int .i64 (k : Int))).run Tryd.prog w = .ok (.int .u8 ((txt[k]).toNat : Int)) w := fun w => by
        rw [run_index_string w _ _ _ _ Tryd.underlying9, dif_pos ⟨by omega, by rw [hz]; omega⟩]
        rfl
      rw [hdr, lineOK] at hlo
      generalize txt[k] = d at *
      have hi1 := hidx wr
      clear hdr hbw hck hidx
      by_cases h10 : d = 10
      · rw [if_pos h10] at hlo
        subst h10
        obtain ⟨h71, hlo⟩ := hlo
        have HLO2 := Lib.hid hlo
        have hi2 : (Instr.index 9 (.string (str txt)) (.int .i64 (k : Int))).run Tryd.prog wr = .ok (.int .u8 10) wr := hi1
        clear hlo hi1
        cases fst
        · have h72 : (c : Int) + 1 ≤ 71 := by
            rcases h71 with h | h
            · cases h
            · omega
          clear h71
          go_wp2_with fail
          go_roundw
          case rel => exact ⟨k + 1, 0, false, by omega, by go_num, rfl, rfl, HLO2.out, Nat.zero_le _, HBW.out⟩
          case measure => simp [intOf]; omega
        · clear h71
          go_wp2_with fail
          go_roundw
          case rel => exact ⟨k + 1, 0, false, by omega, by go_num, rfl, rfl, HLO2.out, Nat.zero_le _, HBW.out⟩
          case measure => simp [intOf]; omega
      · rw [if_neg h10] at hlo
        have HLO2 := Lib.hid hlo
        have hd : ((d.toNat : Int) == 10) = false := by
          have : ¬ d.toNat = 10 := fun e => h10 (UInt8.toNat_inj.1 e)
          simp; omega
        generalize hD : (d.toNat : Int) = D at *
        clear hD hlo h10
        go_wp2_with fail
        go_roundw
        case rel => exact ⟨k + 1, c + 1, fst, by omega, by go_num, by go_num, rfl, HLO2.out, by have := HCK.out; omega, HBW.out⟩
        case measure => simp [intOf]; omega
    · obtain rfl : k = txt.length := by omega
      rw [List.drop_length, lineOK] at hlo
      subst hlo
      obtain ⟨m, hm⟩ := (HG.out.below hbw).m
      have HWT := Lib.hid (writes_true wr m hm)
      clear hbw hm hck
      go_wp2_with fail
      (with_reducible refine HWT.out.mono ?_)
      rintro e w6 ⟨rfl, hb6⟩
      have HB6 : Hid (Below w.heap.size w w6) := HBW.out.trans (hb6.mono HBW.out.size)
      clear hb6
      go_wp2_with fail
      go_ret
      exact ⟨rfl, HB6.out⟩
end Go.Proofs.YtlcjadgaommfmaaDoor
