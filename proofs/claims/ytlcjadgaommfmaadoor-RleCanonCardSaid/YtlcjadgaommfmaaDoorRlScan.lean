/- rle.scan: the walk. -/
import Derived.Test.YtlcjadgaommfmaaDoorRlNum
import Derived.Test.YtlcjadgaommfmaaDoorFresh
import Derived.Test.YtlcjadgaommfmaaDoorAppW
import Derived.Test.YtlcjadgaommfmaaDoorShelfLaid
import Derived.Deep.CutBlock
import Derived.Deep.DeepCutAuto
namespace Go.Proofs.YtlcjadgaommfmaaDoor
open Go.RowKit

theorem idx_bo (d : UInt8) : (Lib.indexByte [98, 111, 36] d < 0) ↔ ¬ (d = 98 ∨ d = 111 ∨ d = 36) := by
  by_cases h1 : d = 98
  · subst h1; simp [Lib.indexByte]
  by_cases h2 : d = 111
  · subst h2; simp [Lib.indexByte]
  by_cases h3 : d = 36
  · subst h3; simp [Lib.indexByte]
  have e1 : ¬ (98 : UInt8) = d := fun e => h1 e.symm
  have e2 : ¬ (111 : UInt8) = d := fun e => h2 e.symm
  have e3 : ¬ (36 : UInt8) = d := fun e => h3 e.symm
  simp [Lib.indexByte, h1, h2, h3, e1, e2, e3]
theorem idxByte_any (w : World) (d : UInt8) :
    Calls Tryd.prog 37 #[.string ⟨#[98, 111, 36]⟩, .int .u8 (d.toNat : Int)] w fun e w' => e = .returned (.int .i64 (Lib.indexByte [98, 111, 36] d)) ∧ w = w' := by
  refine (Tryd.strings_IndexByte ⟨#[98, 111, 36]⟩ (d.toNat : Int) w).mono ?_
  rintro e w' ⟨rfl, rfl⟩
  refine ⟨?_, rfl⟩
  have : ((d.toNat : Int)).toNat.toUInt8 = d := by simp
  rw [this]
theorem rowC_snoc (x y : Int) (n : Nat) : rowC x y (n + 1) = rowC x y n ++ [(x + (n : Int), y)] := by
  unfold rowC
  rw [List.range_succ, List.map_append]; rfl
def strLen : Value → Nat
  | .string s => s.size
  | _ => 0
theorem strLen_str (l : List UInt8) : strLen (.string (str l)) = l.length := str_size l
section acts
variable {k : List UInt8 → Int → Int → List (Int × Int) → List (Int × Int) × Int} {w h : Int} {n : Nat} {d : UInt8} {r : List UInt8} {x y : Int} {out : List (Int × Int)}
theorem act_white (hd : d = 32 ∨ d = 10 ∨ d = 9 ∨ d = 13) : actR k w h n d r x y out = k r x y out := if_pos hd
theorem act_end : actR k w h n 33 r x y out = (out, 0) := rfl
theorem act_down : actR k w h n 36 r x y out = k r 0 (min (y + n) coordM) out := rfl
theorem act_blank : actR k w h n 98 r x y out = k r (min (x + n) coordM) y out := rfl
theorem act_live : actR k w h n 111 r x y out = (if h ≤ y ∨ w - x < n then ([], 3) else if 4096 < out.length + n then ([], 5) else k r (min (x + n) coordM) y (out ++ rowC x y n)) := rfl
theorem act_none (h1 : ¬ (d = 32 ∨ d = 10 ∨ d = 9 ∨ d = 13)) (h2 : d ≠ 33) (h3 : d ≠ 36) (h4 : d ≠ 98) (h5 : d ≠ 111) : actR k w h n d r x y out = ([], 2) := by
  unfold actR
  rw [if_neg h1, if_neg h2, if_neg h3, if_neg h4, if_neg h5]
end acts
def ScanPost (w : World) (r : List (Int × Int) × Int) (e : Ending) (w' : World) : Prop :=
  ∃ v, e = .returned (.tuple #[v, .int .i64 r.2]) ∧ Sl w' 50 2 v r.1.length (flat r.1) ∧ (∀ b, sblk v = some b → w.heap.size ≤ b) ∧ Below w.heap.size w w'
theorem scan_err {w w' : World} {r : List (Int × Int) × Int} (e : Int) (h : r = ([], e)) (hb : Below w.heap.size w w') : ScanPost w r (.returned (.tuple #[.slice none 0 0, .int .i64 e])) w' := by
  subst h
  exact ⟨_, rfl, Sl.nil _ _ _, fun b hb => by simp [sblk] at hb, hb⟩
set_option maxRecDepth 100000 in
set_option maxHeartbeats 6400000 in
theorem scan_any (w : World) (s : List UInt8) (hl : s.length ≤ 1000000) (W H : Int) (hW : 0 ≤ W ∧ W ≤ 1000000000000) (hH : 0 ≤ H ∧ H ≤ 1000000000000) :
    Calls Tryd.prog 18 #[.string (str s), .int .i64 W, .int .i64 H] w (ScanPost w (scanR W H s 0 0 [])) := by
  have HNIL := Lib.hid (Sl.nil w 50 2)
  have HL := Lib.hid hl
  have HWW := Lib.hid hW
  have HHH := Lib.hid hH
  clear hl
  obtain ⟨hW1, hW2⟩ := hW
  obtain ⟨hH1, hH2⟩ := hH
  go_enter Tryd.func18, Tryd.ntmps18
  go_wp2_with fail
  go_loopw [0, 8, 9, 10] (fun sv ov xv yv wx => ∃ (t : List UInt8) (x y : Int) (out : List (Int × Int)), sv = .string (str t) ∧ xv = .int .i64 x ∧ yv = .int .i64 y ∧ scanR W H s 0 0 [] = scanR W H t x y out ∧ Sl wx 50 2 ov out.length (flat out) ∧ (∀ b, sblk ov = some b → w.heap.size ≤ b) ∧ Below w.heap.size w wx ∧ ((0 ≤ x ∧ x ≤ 2199023255552) ∧ (0 ≤ y ∧ y ≤ 2199023255552)) ∧ out.length ≤ 4096 ∧ t.length ≤ 1000000) (fun sv _ _ _ _ => strLen sv)
  case atStart => exact ⟨s, 0, 0, [], rfl, rfl, rfl, rfl, HNIL.out, fun b hb => by simp [sblk] at hb, Below.refl _ _, by decide, by decide, HL.out⟩
  case round =>
    obtain ⟨t, x, y, out, rfl, rfl, rfl, hsc, hs, hf, hb, ⟨⟨hx1, hx2⟩, hy1, hy2⟩, hol, htl⟩ := hrel
    have HSC := Lib.hid hsc
    have HF := Lib.hid hf
    have HB := Lib.hid hb
    have HS := Lib.hid hs
    have HTL := Lib.hid htl
    obtain ⟨A, cap, rfl, hcap1, hcap2⟩ := hs.form
    unfold maxLen at hcap2
    clear hsc hf hb hs htl HL
    cases t with
    | nil =>
      have hE := str_nil_e
      go_wp2_with fail
      go_ret2
      exact scan_err 2 (by rw [HSC.out]; rfl) HB.out
    | cons c t =>
      have hE := str_cons_ne c t
      have hp := str_cons_pos c t
      have hg := str_cons_get c t
      have HTL2 : Hid (t.length ≤ 1000000) := by show _ ≤ _; have := HTL.out; rw [List.length_cons] at this; omega
      go_upto_region 5 with fail
      go_cut [24] (fun sv wx => sv = .bool (isD c) ∧ wx = wr)
      case first =>
        by_cases hd : isD c = true
        · have hd' := of_decide_eq_true hd
          have q1 : 48 ≤ (c.toNat : Int) := by omega
          have q2 : (c.toNat : Int) ≤ 57 := by omega
          have HD := Lib.hid hd
          clear hd hd'
          go_wp2_with fail
          go_meet
          exact ⟨by rw [HD.out], rfl⟩
        · have HD : Hid (isD c = false) := by show _ = _; simpa using hd
          have hd' : ¬ (48 ≤ c.toNat ∧ c.toNat ≤ 57) := fun h => hd (decide_eq_true h)
          by_cases q1 : (c.toNat : Int) < 48
          · clear hd hd'
            go_wp2_with fail
            go_meet
            exact ⟨by rw [HD.out], rfl⟩
          · have q2 : 57 < (c.toNat : Int) := by omega
            have Q2 := Lib.hid q2
            clear hd hd'
            go_wp2_with fail
            go_meet
            exact ⟨by rw [HD.out, decide_eq_false (by have := Q2.out; omega)], rfl⟩
      case rest =>
        obtain ⟨rfl, hwc⟩ := hcut
        rw [hwc]
        clear hwc wc
        generalize hdg : isD c = dg
        have HDG := Lib.hid hdg
        clear hdg
        go_upto_if 24 with fail
        go_cut [0, 11] (fun sv nv wx => ∃ (n : Nat) (d : UInt8) (r : List UInt8), sv = .string (str (d :: r)) ∧ nv = .int .i64 n ∧ (n ≠ 0 ∧ n < 1000000000000) ∧ r.length ≤ 1000000 ∧ scanR W H s 0 0 [] = actR (scanR W H) W H n d r x y out ∧ r.length + 1 ≤ (c :: t).length ∧ Below wr.heap.size wr wx)
        case first =>
          cases dg
          · have HV := Lib.hid (HSC.out.trans (scanR_letter W H c t x y out HDG.out))
            go_wp2_with fail
            go_meet
            exact ⟨1, c, t, rfl, rfl, by decide, HTL2.out, HV.out, Nat.le_refl _, Below.refl _ _⟩
          · have HN := Lib.hid (rlnum_any wr (c :: t) (by have := HTL.out; omega))
            unfold RNPost at HN
            have HV := Lib.hid (HSC.out.trans (scanR_number W H c t x y out HDG.out))
            have HR := Lib.hid (rnum_rest (c :: t)).2
            have HLT := Lib.hid (rnum_lt (s := c :: t))
            generalize (rnum (c :: t)).1 = n at *
            generalize (rnum (c :: t)).2.2 = ok at *
            generalize (rnum (c :: t)).2.1 = s2 at *
            go_wp2_with fail
            (with_reducible refine HN.out.mono ?_)
            rintro e w1 ⟨rfl, hb1⟩
            have HB1 := Lib.hid hb1
            have HBW : Hid (Below w.heap.size w w1) := HB.out.trans (hb1.mono HB.out.size)
            clear hb1 HN
            cases ok
            · have HE : Hid (scanR W H s 0 0 [] = ([], 2)) := HV.out.trans (if_pos (.inl rfl))
              clear HV HR HLT
              go_wp2_with fail
              go_ret2
              exact scan_err 2 HE.out HBW.out
            · by_cases h0 : n = 0
              · have HE : Hid (scanR W H s 0 0 [] = ([], 2)) := HV.out.trans (if_pos (.inr h0))
                subst h0
                clear HV HR HLT
                go_wp2_with fail
                go_ret2
                exact scan_err 2 HE.out HBW.out
              · have hne : ¬ ((true : Bool) = false ∨ n = 0) := fun h => h.elim (fun h => by cases h) h0
                have HV2 := Lib.hid (HV.out.trans (if_neg hne))
                clear hne
                have H0 := Lib.hid h0
                have h0' : ((n : Int) == 0) = false := by simpa using h0
                have HNL := Lib.hid (HLT.out rfl)
                have HRL := Lib.hid (HR.out rfl)
                clear h0 HV HR HLT
                generalize hni : (n : Int) = ni at *
                have HNI := Lib.hid hni
                clear hni
                cases s2 with
                | nil =>
                  have hE2 := str_nil_e
                  have HE : Hid (scanR W H s 0 0 [] = ([], 2)) := HV2.out
                  go_wp2_with fail
                  go_ret2
                  exact scan_err 2 HE.out HBW.out
                | cons d r =>
                  have hE2 := str_cons_ne d r
                  have hp2 := str_cons_pos d r
                  have hg2 := str_cons_get d r
                  have HIX := Lib.hid (idxByte_any w1 d)
                  have HIB := Lib.hid (idx_bo d)
                  generalize Lib.indexByte [98, 111, 36] d = ix at *
                  go_wp2_with fail
                  (with_reducible refine HIX.out.mono ?_)
                  rintro e w2 ⟨rfl, rfl⟩
                  by_cases hix : ix < 0
                  · have HE : Hid (scanR W H s 0 0 [] = ([], 2)) := HV2.out.trans (if_neg (HIB.out.1 hix))
                    go_wp2_with fail
                    go_ret2
                    exact scan_err 2 HE.out HBW.out
                  · have HE := Lib.hid (HV2.out.trans (if_pos (Classical.byContradiction fun h => hix (HIB.out.2 h))))
                    go_wp2_with fail
                    go_meet
                    exact ⟨n, d, r, rfl, by rw [HNI.out], ⟨H0.out, HNL.out⟩, by have := HRL.out; have := HTL2.out; simp at *; omega, HE.out, by have := HRL.out; simp at *; omega, HB1.out⟩
        case rest =>
          obtain ⟨n, d, r, rfl, rfl, ⟨hn0, hn1⟩, hrl, hact, hlen, hbw⟩ := hcut
          have hE2 := str_cons_ne d r
          have hp2 := str_cons_pos d r
          have hg2 := str_cons_get d r
          have ht2 := str_tail d r
          have HBC : Hid (Below w.heap.size w wc) := HB.out.trans (hbw.mono HB.out.size)
          have HSC2 : Hid (Sl wc 50 2 (.slice A out.length cap) out.length (flat out)) := HS.out.mod (Mod.of_below_all hbw) (fun b hb h => h)
          have HACT := Lib.hid hact
          have HRL := Lib.hid hrl
          have HLEN : Hid (r.length < (c :: t).length) := hlen
          have HN0 := Lib.hid hn0
          have HPOS : Hid ((0 ≤ x ∧ x ≤ 2199023255552) ∧ (0 ≤ y ∧ y ≤ 2199023255552)) := ⟨⟨hx1, hx2⟩, hy1, hy2⟩
          have HOL := Lib.hid hol
          have hni : (n : Int) ≤ 1000000000000 := by omega
          have hnp : 1 ≤ (n : Int) := by omega
          have HNP := Lib.hid hnp
          clear hbw hact hrl hlen hn0 hn1 hE hp hg HS HB HSC
          generalize hnn : (n : Int) = N at *
          have HNN := Lib.hid hnn
          clear hnn
          by_cases hw : d = 32 ∨ d = 10 ∨ d = 9 ∨ d = 13
          · have HV := Lib.hid (HACT.out.trans (act_white hw))
            rcases hw with rfl | rfl | rfl | rfl
            all_goals
              go_wp2_with fail
              exact ⟨⟨r, x, y, out, rfl, rfl, rfl, HV.out, HSC2.out, HF.out, HBC.out, HPOS.out, HOL.out, HRL.out⟩, by rw [strLen_str, strLen_str]; exact HLEN.out⟩
          by_cases h33 : d = 33
          · subst h33
            have HV := Lib.hid (HACT.out.trans act_end)
            go_wp2_with fail
            go_ret2
            exact ⟨_, by rw [HV.out]; rfl, by rw [HV.out]; exact HSC2.out, HF.out, HBC.out⟩
          by_cases h36 : d = 36
          · subst h36
            have HV := Lib.hid (HACT.out.trans act_down)
            go_wp2_with fail
            exact ⟨⟨r, 0, (min (y + N) 2199023255552), out, rfl, rfl, rfl, by rw [HV.out, HNN.out]; rfl, HSC2.out, HF.out, HBC.out, ⟨⟨by decide, by decide⟩, by have := HPOS.out; have := HNP.out; omega, by omega⟩, HOL.out, HRL.out⟩, by rw [strLen_str, strLen_str]; exact HLEN.out⟩
          by_cases h98 : d = 98
          · subst h98
            have HV := Lib.hid (HACT.out.trans act_blank)
            go_wp2_with fail
            go_loopw [8, 14] (fun ov iv wx => ov = .slice A out.length cap ∧ iv = .int .i64 0 ∧ wx = wc) (fun _ _ _ => 0)
            case atStart => exact ⟨rfl, rfl, rfl⟩
            case round =>
              obtain ⟨rfl, rfl, rfl⟩ := hrel
              go_wp2_with fail
              exact ⟨⟨r, (min (x + N) 2199023255552), y, out, rfl, rfl, rfl, by rw [HV.out, HNN.out]; rfl, HSC2.out, HF.out, HBC.out, ⟨⟨by have := HPOS.out; have := HNP.out; omega, by omega⟩, HPOS.out.2⟩, HOL.out, HRL.out⟩, by rw [strLen_str, strLen_str]; exact HLEN.out⟩
          by_cases h111 : d = 111
          · subst h111
            have HV := Lib.hid (HACT.out.trans act_live)
            by_cases ha : H ≤ y ∨ W - x < N
            · have HE : Hid (scanR W H s 0 0 [] = ([], 3)) := HV.out.trans (if_pos (by rw [HNN.out]; exact ha))
              by_cases ha1 : H ≤ y
              · clear ha
                go_wp2_with fail
                go_ret2
                exact scan_err 3 HE.out HBC.out
              · have ha2 : W - x < N := by omega
                clear ha
                go_wp2_with fail
                go_ret2
                exact scan_err 3 HE.out HBC.out
            have HV2 := Lib.hid (HV.out.trans (if_neg (by rw [HNN.out]; exact ha)))
            have ha1 : ¬ H ≤ y := by omega
            have ha2 : ¬ W - x < N := by omega
            clear ha HV
            by_cases hb : 4096 < (out.length : Int) + N
            · have HE : Hid (scanR W H s 0 0 [] = ([], 5)) := HV2.out.trans (if_pos (by have := HNN.out; omega))
              go_wp2_with fail
              go_ret2
              exact scan_err 5 HE.out HBC.out
            have HV3 := Lib.hid (HV2.out.trans (if_neg (by have := HNN.out; omega)))
            have HFEW : Hid (out.length + n ≤ 4096) := by show _ ≤ _; have := HNN.out; omega
            clear HV2
            have HS0 : Hid (Sl wc 50 2 (.slice A out.length cap) (out.length + 0) (flat (out ++ rowC x y 0))) := by
              have e : rowC x y 0 = [] := rfl
              show Sl _ _ _ _ _ _
              rw [e, List.append_nil]; exact HSC2.out
            have HXB := Lib.hid (And.intro hx2 hni)
            go_wp2_with fail
            go_loopw [8, 14] (fun ov iv wx => ∃ k : Nat, k ≤ n ∧ iv = .int .i64 k ∧ Sl wx 50 2 ov (out.length + k) (flat (out ++ rowC x y k)) ∧ (∀ b, sblk ov = some b → w.heap.size ≤ b) ∧ Below w.heap.size w wx) (fun _ iv _ => n - (intOf iv).toNat)
            case atStart => exact ⟨0, Nat.zero_le _, rfl, HS0.out, HF.out, HBC.out⟩
            case round =>
              obtain ⟨k, hk, rfl, hsk, hfk, hbk⟩ := hrel
              have HSK := Lib.hid hsk
              have HFK := Lib.hid hfk
              have HBK := Lib.hid hbk
              obtain ⟨A4, cap4, rfl, hc41, hc42⟩ := hsk.form
              unfold maxLen at hc42
              clear hsk hfk hbk
              by_cases hlt : k < n
              · have hlt' : (k : Int) < N := by have := HNN.out; omega
                have hkb : (k : Int) ≤ 1000000000000 := by omega
                have hk0 : 0 ≤ (k : Int) := by omega
                have HSA := Lib.hid (HSK.out.alloc (.cells (flat [(x + (k : Int), y)]).toArray 50))
                have HNEW := Lib.hid (fresh_cells wr [(x + (k : Int), y)] 1 rfl (by unfold maxLen; omega))
                have hol4 : out.length + k + 1 ≤ 4096 := by have := HFEW.out; omega
                have HBA : Hid (Below w.heap.size w (wr.alloc (.cells (flat [(x + (k : Int), y)]).toArray 50))) := HBK.out.alloc HBK.out.size _
                generalize hok : out.length + k = ok at *
                have HOK := Lib.hid hok
                clear hok
                go_wp2_with (at_builtin; go_loud (refine wpList_append_sl _ rfl (.tmp 101) (.tmp 107) 22 rfl 50 (.agg #[.int .i64 0, .int .i64 0]) 2 16 Tryd.underlying22 Tryd.info50 rfl (by decide) rfl (by exact HSA.out) rfl (by exact HNEW.out) flat_one (by omega) (by unfold maxLen; omega) ?_); intro v5 w5 hs5 hm5 hd5)
                obtain ⟨f1, f2⟩ := fresh_of (w := w) hm5 hd5 HBA.out HFK.out
                have HS5 : Hid (Sl w5 50 2 v5 (out.length + (k + 1)) (flat (out ++ rowC x y (k + 1)))) := by
                  show Sl _ _ _ _ _ _
                  rw [rowC_snoc, ← List.append_assoc, flat_append, ← Nat.add_assoc, HOK.out]
                  exact hs5
                have HF5 := Lib.hid f1
                have HB5 := Lib.hid f2
                clear hs5 hm5 hd5 f1 f2
                go_wp2_with fail
                go_roundw
                case rel => exact ⟨k + 1, by omega, by go_num, HS5.out, HF5.out, HB5.out⟩
                case measure => simp [intOf]; omega
              · obtain rfl : k = n := by omega
                have hge : ¬ (k : Int) < N := by have := HNN.out; omega
                have HRC := Lib.hid (rowC_len x y k)
                clear hlt
                go_wp2_with fail
                exact ⟨⟨r, (min (x + N) 2199023255552), y, (out ++ rowC x y k), rfl, rfl, rfl, by rw [HV3.out, HNN.out]; rfl, by rw [List.length_append, HRC.out]; exact HSK.out, HFK.out, HBK.out, ⟨⟨by have := HPOS.out; have := HNP.out; omega, by omega⟩, HPOS.out.2⟩, by rw [List.length_append, HRC.out]; exact HFEW.out, HRL.out⟩, by rw [strLen_str, strLen_str]; exact HLEN.out⟩
          · have hall : ∀ k : Nat, d.toNat = k → d = UInt8.ofNat k := fun k hk => by rw [← hk]; simp
            have HE : Hid (scanR W H s 0 0 [] = ([], 2)) := HACT.out.trans (act_none hw h33 h36 h98 h111)
            have g32 : ((d.toNat : Int) == 32) = false := by simp; exact fun e => hw (.inl (hall 32 (by omega)))
            have g10 : ((d.toNat : Int) == 10) = false := by simp; exact fun e => hw (.inr (.inl (hall 10 (by omega))))
            have g9 : ((d.toNat : Int) == 9) = false := by simp; exact fun e => hw (.inr (.inr (.inl (hall 9 (by omega)))))
            have g13 : ((d.toNat : Int) == 13) = false := by simp; exact fun e => hw (.inr (.inr (.inr (hall 13 (by omega)))))
            have g33 : ((d.toNat : Int) == 33) = false := by simp; exact fun e => h33 (hall 33 (by omega))
            have g36 : ((d.toNat : Int) == 36) = false := by simp; exact fun e => h36 (hall 36 (by omega))
            have g98 : ((d.toNat : Int) == 98) = false := by simp; exact fun e => h98 (hall 98 (by omega))
            have g111 : ((d.toNat : Int) == 111) = false := by simp; exact fun e => h111 (hall 111 (by omega))
            clear hall hw h33 h36 h98 h111
            go_wp2_with fail
            go_ret2
            exact scan_err 2 HE.out HBC.out
end Go.Proofs.YtlcjadgaommfmaaDoor
