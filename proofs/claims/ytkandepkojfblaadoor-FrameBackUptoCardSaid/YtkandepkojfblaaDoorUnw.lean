/- frame.Unwrap: the walk. -/
import Derived.Test.YtkandepkojfblaaDoorUnwP
import Derived.Test.YtkandepkojfblaaDoorCut
import Derived.IntWalk
namespace Go.Proofs.YtkandepkojfblaaDoor
open Go.RowKit

theorem trim_below (w : World) (z : List UInt8) (hz : z.length ≤ 1000) :
    Calls Tryd.prog 17 #[.string (str z), .string ⟨#[0]⟩] w fun e w' => e = .returned (.string (str (Lib.trimB z 0))) ∧ Below w.heap.size w w' := by
  refine (Tryd.strings_Trim_one (str z) 0 (by decide) w (by rw [str_size]; omega)).mono ?_
  rintro e w' ⟨rfl, hw⟩
  refine ⟨by simp [str], ?_⟩
  rcases hw with rfl | rfl
  · exact Below.refl _ _
  · exact (Below.refl _ _).drew

def unwR (s : List UInt8) : Option (List (List UInt8)) := if s.length % 128 = 0 then unw [] false s else none
def UnwPost (w : World) (s : List UInt8) (e : Ending) (w' : World) : Prop :=
  ∃ (v : Value) (er : Int), e = .returned (.tuple #[v, .int .i64 er]) ∧ Below w.heap.size w w' ∧
    ((∃ L, unwR s = some L ∧ er = 0 ∧ Sl w' 9 1 v L.length (strsV L) ∧ (∀ q, sblk v = some q → w.heap.size ≤ q)) ∨ (unwR s = none ∧ er = 2 ∧ v = .slice none 0 0))

theorem str_one (a b : UInt8) (t : List UInt8) (h : 1 < (str (a :: b :: t)).size) : (str (a :: b :: t))[1]'h = b := rfl
theorem str_mid (s : List UInt8) (i j : Nat) (h : i ≤ j) : (str s).extract i j = str ((s.take j).drop i) := by
  unfold str; rw [ByteArray.extract_mk, List.drop_take]

set_option maxRecDepth 100000 in
set_option maxHeartbeats 3200000 in
theorem unwrap_any (w : World) (s0 : List UInt8) (hs0 : s0.length ≤ 200000000) :
    Calls Tryd.prog 8 #[.string (str s0)] w (UnwPost w s0) := by
  have hsz0 : ((str s0).size : Int) = (s0.length : Int) := by rw [str_size]
  by_cases hmod : s0.length % 128 = 0
  · have HR : Hid (unwR s0 = unw [] false s0) := by show _ = _; unfold unwR; rw [if_pos hmod]
    have HNIL := Lib.hid (Sl.nil w 9 1)
    have hmi : (s0.length : Int).tmod 128 = 0 := by rw [Int.tmod_eq_emod_of_nonneg (by omega)]; omega
    go_enter Tryd.func8, Tryd.ntmps8
    go_wp2_with fail
    generalize hRR : unwR s0 = R at HR
    have HRR := Lib.hid hRR
    clear hRR hmi
    go_loopw [0, 4, 5, 6] (fun sv ov tv pv wx => ∃ (s text : List UInt8) (O : List (List UInt8)) (op : Bool), sv = .string (str s) ∧ tv = .string (str text) ∧ pv = .bool op ∧ Sl wx 9 1 ov O.length (strsV O) ∧ (∀ q, sblk ov = some q → w.heap.size ≤ q) ∧ Below w.heap.size w wx ∧
        s.length % 128 = 0 ∧ text.length + s.length ≤ s0.length ∧ O.length + s.length ≤ s0.length ∧ (unw text op s).map (O ++ ·) = R) (fun sv _ _ _ _ => strLen sv)
    case atStart => exact ⟨s0, [], [], false, rfl, rfl, rfl, HNIL.out, fun q hq => by simp [sblk] at hq, Below.refl _ _, hmod, by simp, by simp, by rw [HR.out]; simp⟩
    case round =>
      obtain ⟨s, text, O, op, rfl, rfl, rfl, hsl, hf, hb, hm, ht1, ho1, hu⟩ := hrel
      have HSL := Lib.hid hsl
      have HF := Lib.hid hf
      have HB := Lib.hid hb
      have hsz := hb.size
      clear hsl hf hb
      match s, hm, ht1, ho1, hu with
      | [], hm, ht1, ho1, hu =>
        rw [unw] at hu
        have HU := Lib.hid hu
        have hE := str_nil_e
        clear hu
        cases op
        · have hu : R = some O := by have := HU.out; simpa using this.symm
          have HU2 := Lib.hid hu
          clear hu
          go_wp2
          go_ret2
          exact ⟨_, 0, rfl, HB.out, .inl ⟨O, by rw [HRR.out, HU2.out], rfl, HSL.out, HF.out⟩⟩
        · have hu : R = none := by have := HU.out; simpa using this.symm
          have HU2 := Lib.hid hu
          clear hu
          go_wp2
          go_ret2
          exact ⟨_, 2, rfl, HB.out, .inr ⟨by rw [HRR.out, HU2.out], rfl, rfl⟩⟩
      | [x], hm, ht1, ho1, hu => simp at hm
      | a :: b :: t, hm, ht1, ho1, hu =>
        have hl : 128 ≤ (a :: b :: t).length := by simp at hm ⊢; omega
        have HU := Lib.hid hu
        have HBAD : Hid (badF op a b (restF (a :: b :: t) b.toNat) → R = none) := fun hbad => by
          have := HU.out
          rw [unw, if_pos hbad] at this
          simpa using this.symm
        have hE : (str (a :: b :: t)).toList.isEmpty = false := str_cons_ne a (b :: t)
        have hp : 1 < (str (a :: b :: t)).size := by rw [str_size]; omega
        have hp0 : 0 < (str (a :: b :: t)).size := by omega
        have hg0 := str_cons_get a (b :: t)
        have hg1 := str_one a b t hp
        have hszs : ((str (a :: b :: t)).size : Int) = ((a :: b :: t).length : Int) := by rw [str_size]
        have ha256 : a.toNat < 256 := a.toNat_lt
        have hb256 : b.toNat < 256 := b.toNat_lt
        clear hu
        by_cases k1 : (1 : Int) < (a.toNat : Int)
        · have hR := Lib.hid (HBAD.out (by unfold badF; omega))
          go_wp2
          go_ret2
          exact ⟨_, 2, rfl, HB.out, .inr ⟨by rw [HRR.out, hR.out], rfl, rfl⟩⟩
        · by_cases k2 : (126 : Int) < (b.toNat : Int)
          · have hR := Lib.hid (HBAD.out (by unfold badF; omega))
            go_wp2
            go_ret2
            exact ⟨_, 2, rfl, HB.out, .inr ⟨by rw [HRR.out, hR.out], rfl, rfl⟩⟩
          · have hnn : ∃ n : Nat, b.toNat = n := ⟨_, rfl⟩
            have hex : (str (a :: b :: t)).extract (2 + b.toNat) 128 = str (restF (a :: b :: t) b.toNat) := str_mid _ _ _ (by omega)
            have hex2 : (str (a :: b :: t)).extract 2 (2 + b.toNat) = str (textF (a :: b :: t) b.toNat) := str_mid _ _ _ (by omega)
            have hex3 : (str (a :: b :: t)).extract 128 (str (a :: b :: t)).size = str ((a :: b :: t).drop 128) := str_drop _ _
            by_cases ka : a.toNat = 1
            · have e1 : ((a.toNat : Int) == 1) = true := by simp [ka]
              by_cases kb : (b.toNat : Int) < 126
              · have hR := Lib.hid (HBAD.out (by unfold badF; omega))
                go_wp2
                go_ret2
                exact ⟨_, 2, rfl, HB.out, .inr ⟨by rw [HRR.out, hR.out], rfl, rfl⟩⟩
              · have hb0 : ((b.toNat : Int) == 0) = false := by simp; omega
                cases op
                · as_aux_lemma =>
                  go_wp2_with fail
                  have hrl : (restF (a :: b :: t) b.toNat).length ≤ 1000 := by unfold restF; rw [List.length_drop, List.length_take]; omega
                  (with_reducible refine (trim_below _ _ hrl).mono ?_)
                  rintro e w2 ⟨rfl, hb2⟩
                  have HB2 : Hid (Below w.heap.size w w2) := HB.out.trans (hb2.mono hsz)
                  have HSL2 : Hid (Sl w2 9 1 u4 O.length (strsV O)) := HSL.out.of_blk fun q hq => hb2.block q (HSL.out.lt hq).1
                  clear hb2
                  by_cases hz : Lib.trimB (restF (a :: b :: t) b.toNat) 0 = []
                  · have hE2 : (str (Lib.trimB (restF (a :: b :: t) b.toNat) 0)).toList.isEmpty = true := by rw [str_toList, hz]; rfl
                    have HNB : Hid (¬ badF false a b (restF (a :: b :: t) b.toNat)) := fun h => by
                      unfold badF at h
                      rcases h with h | h | ⟨h, h'⟩ | ⟨h, h'⟩ | h
                      · omega
                      · omega
                      · omega
                      · cases h
                      · exact h hz
                    have HUN : Hid (unw text false (a :: b :: t) = unw (text ++ textF (a :: b :: t) b.toNat) true ((a :: b :: t).drop 128)) := by
                      show _ = _
                      rw [unw, if_neg HNB.out, if_pos ka]
                    have hu := HU.out
                    rw [HUN.out] at hu
                    have HU3 := Lib.hid hu
                    have hpl : (textF (a :: b :: t) b.toNat).length + ((a :: b :: t).drop 128).length ≤ (a :: b :: t).length := by
                      unfold textF; rw [List.length_drop, List.length_take, List.length_drop]; omega
                    have hdl : ((a :: b :: t).drop 128).length + 128 = (a :: b :: t).length := by rw [List.length_drop]; omega
                    have hdm : ((a :: b :: t).drop 128).length % 128 = 0 := by omega
                    generalize textF (a :: b :: t) b.toNat = p at *
                    generalize (a :: b :: t).drop 128 = r at *
                    have eadd : ∀ w, (Op.stringOp .add (str text) (str p)).run Tryd.prog w = .ok (.string (str (text ++ p))) w := fun w => by
                      rw [run_string_add_sum w _ _ (by rw [str_size, str_size]; omega), str_append]
                    have HPD : Hid (p.length + r.length ≤ (a :: b :: t).length ∧ r.length + 128 = (a :: b :: t).length) := ⟨hpl, hdl⟩
                    clear hu hz HUN HNB HU HBAD hpl hdl
                    go_wp2_with fail
                    go_roundw
                    case rel => exact ⟨r, text ++ p, O, true, rfl, rfl, rfl, HSL2.out, HF.out, HB2.out, hdm, by have := HPD.out; rw [List.length_append]; omega, by have := HPD.out; omega, HU3.out⟩
                    case measure => have := HPD.out; simp only [strLen, str_size]; show r.length < (a :: b :: t).length; omega
                  · have hE2 : (str (Lib.trimB (restF (a :: b :: t) b.toNat) 0)).toList.isEmpty = false := by
                      rw [str_toList]
                      cases h : Lib.trimB (restF (a :: b :: t) b.toNat) 0 with
                      | nil => exact absurd h hz
                      | cons _ _ => rfl
                    have hR := Lib.hid (HBAD.out (by unfold badF; exact .inr (.inr (.inr (.inr hz)))))
                    clear hz
                    go_wp2
                    go_ret2
                    exact ⟨_, 2, rfl, HB2.out, .inr ⟨by rw [HRR.out, hR.out], rfl, rfl⟩⟩
                · as_aux_lemma =>
                  go_wp2_with fail
                  have hrl : (restF (a :: b :: t) b.toNat).length ≤ 1000 := by unfold restF; rw [List.length_drop, List.length_take]; omega
                  (with_reducible refine (trim_below _ _ hrl).mono ?_)
                  rintro e w2 ⟨rfl, hb2⟩
                  have HB2 : Hid (Below w.heap.size w w2) := HB.out.trans (hb2.mono hsz)
                  have HSL2 : Hid (Sl w2 9 1 u4 O.length (strsV O)) := HSL.out.of_blk fun q hq => hb2.block q (HSL.out.lt hq).1
                  clear hb2
                  by_cases hz : Lib.trimB (restF (a :: b :: t) b.toNat) 0 = []
                  · have hE2 : (str (Lib.trimB (restF (a :: b :: t) b.toNat) 0)).toList.isEmpty = true := by rw [str_toList, hz]; rfl
                    have HNB : Hid (¬ badF true a b (restF (a :: b :: t) b.toNat)) := fun h => by
                      unfold badF at h
                      rcases h with h | h | ⟨h, h'⟩ | ⟨h, h'⟩ | h
                      · omega
                      · omega
                      · omega
                      · omega
                      · exact h hz
                    have HUN : Hid (unw text true (a :: b :: t) = unw (text ++ textF (a :: b :: t) b.toNat) true ((a :: b :: t).drop 128)) := by
                      show _ = _
                      rw [unw, if_neg HNB.out, if_pos ka]
                    have hu := HU.out
                    rw [HUN.out] at hu
                    have HU3 := Lib.hid hu
                    have hpl : (textF (a :: b :: t) b.toNat).length + ((a :: b :: t).drop 128).length ≤ (a :: b :: t).length := by
                      unfold textF; rw [List.length_drop, List.length_take, List.length_drop]; omega
                    have hdl : ((a :: b :: t).drop 128).length + 128 = (a :: b :: t).length := by rw [List.length_drop]; omega
                    have hdm : ((a :: b :: t).drop 128).length % 128 = 0 := by omega
                    generalize textF (a :: b :: t) b.toNat = p at *
                    generalize (a :: b :: t).drop 128 = r at *
                    have eadd : ∀ w, (Op.stringOp .add (str text) (str p)).run Tryd.prog w = .ok (.string (str (text ++ p))) w := fun w => by
                      rw [run_string_add_sum w _ _ (by rw [str_size, str_size]; omega), str_append]
                    have HPD : Hid (p.length + r.length ≤ (a :: b :: t).length ∧ r.length + 128 = (a :: b :: t).length) := ⟨hpl, hdl⟩
                    clear hu hz HUN HNB HU HBAD hpl hdl
                    go_wp2_with fail
                    go_roundw
                    case rel => exact ⟨r, text ++ p, O, true, rfl, rfl, rfl, HSL2.out, HF.out, HB2.out, hdm, by have := HPD.out; rw [List.length_append]; omega, by have := HPD.out; omega, HU3.out⟩
                    case measure => have := HPD.out; simp only [strLen, str_size]; show r.length < (a :: b :: t).length; omega
                  · have hE2 : (str (Lib.trimB (restF (a :: b :: t) b.toNat) 0)).toList.isEmpty = false := by
                      rw [str_toList]
                      cases h : Lib.trimB (restF (a :: b :: t) b.toNat) 0 with
                      | nil => exact absurd h hz
                      | cons _ _ => rfl
                    have hR := Lib.hid (HBAD.out (by unfold badF; exact .inr (.inr (.inr (.inr hz)))))
                    clear hz
                    go_wp2
                    go_ret2
                    exact ⟨_, 2, rfl, HB2.out, .inr ⟨by rw [HRR.out, hR.out], rfl, rfl⟩⟩
            · have e1 : ((a.toNat : Int) == 1) = false := by simp; omega
              cases op
              · as_aux_lemma =>
                go_wp2_with fail
                have hrl : (restF (a :: b :: t) b.toNat).length ≤ 1000 := by unfold restF; rw [List.length_drop, List.length_take]; omega
                (with_reducible refine (trim_below _ _ hrl).mono ?_)
                rintro e w2 ⟨rfl, hb2⟩
                have HB2 : Hid (Below w.heap.size w w2) := HB.out.trans (hb2.mono hsz)
                have HSL2 : Hid (Sl w2 9 1 u4 O.length (strsV O)) := HSL.out.of_blk fun q hq => hb2.block q (HSL.out.lt hq).1
                clear hb2
                by_cases hz : Lib.trimB (restF (a :: b :: t) b.toNat) 0 = []
                · have hE2 : (str (Lib.trimB (restF (a :: b :: t) b.toNat) 0)).toList.isEmpty = true := by rw [str_toList, hz]; rfl
                  have HNB : Hid (¬ badF false a b (restF (a :: b :: t) b.toNat)) := fun h => by
                    unfold badF at h
                    rcases h with h | h | ⟨h, h'⟩ | ⟨h, h'⟩ | h
                    · omega
                    · omega
                    · omega
                    · cases h
                    · exact h hz
                  have HUN : Hid (unw text false (a :: b :: t) = (unw [] false ((a :: b :: t).drop 128)).map ((text ++ textF (a :: b :: t) b.toNat) :: ·)) := by
                    show _ = _
                    rw [unw, if_neg HNB.out, if_neg ka]
                  have hu := HU.out
                  rw [HUN.out] at hu
                  have HU3 := Lib.hid hu
                  have hpl : (textF (a :: b :: t) b.toNat).length + ((a :: b :: t).drop 128).length ≤ (a :: b :: t).length := by
                    unfold textF; rw [List.length_drop, List.length_take, List.length_drop]; omega
                  have hdl : ((a :: b :: t).drop 128).length + 128 = (a :: b :: t).length := by rw [List.length_drop]; omega
                  have hdm : ((a :: b :: t).drop 128).length % 128 = 0 := by omega
                  generalize textF (a :: b :: t) b.toNat = p at *
                  generalize (a :: b :: t).drop 128 = r at *
                  have eadd : ∀ w, (Op.stringOp .add (str text) (str p)).run Tryd.prog w = .ok (.string (str (text ++ p))) w := fun w => by
                    rw [run_string_add_sum w _ _ (by rw [str_size, str_size]; omega), str_append]
                  have HPD : Hid (p.length + r.length ≤ (a :: b :: t).length ∧ r.length + 128 = (a :: b :: t).length) := ⟨hpl, hdl⟩
                  clear hu hz HUN HNB HU HBAD hpl hdl
                  have hO : O.length ≤ 200000000 := by omega
                  have HRD : Hid (Rd (w2.alloc (.cells #[.string (str (text ++ p))] 9)) (w2.heap.size + 1) 1 (.slice (some ⟨w2.heap.size, 0, none⟩) 1 1) 1 (strsV [text ++ p])) := fresh_str w2 (text ++ p)
                  have hsz2 := HB2.out.size
                  go_wp2_with (at_builtin; refine wpList_append_sl _ rfl (.tmp 61) (.tmp 63) 22 rfl 9 (.string ⟨#[]⟩) 1 16 Tryd.underlying22 Tryd.infoStr rfl (by decide) rfl (by exact HSL2.out.alloc _) rfl (by exact HRD.out) strsV_one (by omega) (by unfold maxLen; omega) ?_; intro v5 w5 hs5 hm5 hd5)
                  obtain ⟨f1, f2⟩ := fresh_of (w := w) (v := u4) (by exact hm5) (by exact hd5) (HB2.out.alloc hsz2 _) HF.out
                  have HS5 : Hid (Sl w5 9 1 v5 (O ++ [text ++ p]).length (strsV (O ++ [text ++ p]))) := by
                    show Sl _ _ _ _ _ _
                    rw [List.length_append, strsV_append]; exact hs5
                  have HF1 := Lib.hid f1
                  have HF2 := Lib.hid f2
                  clear hs5 hm5 hd5 f1 f2
                  go_wp2
                  go_roundw
                  case rel => exact ⟨r, [], O ++ [text ++ p], false, rfl, rfl, rfl, HS5.out, HF1.out, HF2.out, hdm, by have := HPD.out; simp; omega, by have := HPD.out; rw [List.length_append]; simp; omega, by rw [← HU3.out, Option.map_map]; congr 1; funext x; simp⟩
                  case measure => have := HPD.out; simp only [strLen, str_size]; show r.length < (a :: b :: t).length; omega
                · have hE2 : (str (Lib.trimB (restF (a :: b :: t) b.toNat) 0)).toList.isEmpty = false := by
                    rw [str_toList]
                    cases h : Lib.trimB (restF (a :: b :: t) b.toNat) 0 with
                    | nil => exact absurd h hz
                    | cons _ _ => rfl
                  have hR := Lib.hid (HBAD.out (by unfold badF; exact .inr (.inr (.inr (.inr hz)))))
                  clear hz
                  go_wp2
                  go_ret2
                  exact ⟨_, 2, rfl, HB2.out, .inr ⟨by rw [HRR.out, hR.out], rfl, rfl⟩⟩
              · by_cases kz : b.toNat = 0
                · have hb0 : ((b.toNat : Int) == 0) = true := by simp; omega
                  have hR := Lib.hid (HBAD.out (by unfold badF; exact .inr (.inr (.inr (.inl ⟨rfl, kz⟩)))))
                  go_wp2
                  go_ret2
                  exact ⟨_, 2, rfl, HB.out, .inr ⟨by rw [HRR.out, hR.out], rfl, rfl⟩⟩
                · have hb0 : ((b.toNat : Int) == 0) = false := by simp; omega
                  as_aux_lemma =>
                  go_wp2_with fail
                  have hrl : (restF (a :: b :: t) b.toNat).length ≤ 1000 := by unfold restF; rw [List.length_drop, List.length_take]; omega
                  (with_reducible refine (trim_below _ _ hrl).mono ?_)
                  rintro e w2 ⟨rfl, hb2⟩
                  have HB2 : Hid (Below w.heap.size w w2) := HB.out.trans (hb2.mono hsz)
                  have HSL2 : Hid (Sl w2 9 1 u4 O.length (strsV O)) := HSL.out.of_blk fun q hq => hb2.block q (HSL.out.lt hq).1
                  clear hb2
                  by_cases hz : Lib.trimB (restF (a :: b :: t) b.toNat) 0 = []
                  · have hE2 : (str (Lib.trimB (restF (a :: b :: t) b.toNat) 0)).toList.isEmpty = true := by rw [str_toList, hz]; rfl
                    have HNB : Hid (¬ badF true a b (restF (a :: b :: t) b.toNat)) := fun h => by
                      unfold badF at h
                      rcases h with h | h | ⟨h, h'⟩ | ⟨h, h'⟩ | h
                      · omega
                      · omega
                      · omega
                      · omega
                      · exact h hz
                    have HUN : Hid (unw text true (a :: b :: t) = (unw [] false ((a :: b :: t).drop 128)).map ((text ++ textF (a :: b :: t) b.toNat) :: ·)) := by
                      show _ = _
                      rw [unw, if_neg HNB.out, if_neg ka]
                    have hu := HU.out
                    rw [HUN.out] at hu
                    have HU3 := Lib.hid hu
                    have hpl : (textF (a :: b :: t) b.toNat).length + ((a :: b :: t).drop 128).length ≤ (a :: b :: t).length := by
                      unfold textF; rw [List.length_drop, List.length_take, List.length_drop]; omega
                    have hdl : ((a :: b :: t).drop 128).length + 128 = (a :: b :: t).length := by rw [List.length_drop]; omega
                    have hdm : ((a :: b :: t).drop 128).length % 128 = 0 := by omega
                    generalize textF (a :: b :: t) b.toNat = p at *
                    generalize (a :: b :: t).drop 128 = r at *
                    have eadd : ∀ w, (Op.stringOp .add (str text) (str p)).run Tryd.prog w = .ok (.string (str (text ++ p))) w := fun w => by
                      rw [run_string_add_sum w _ _ (by rw [str_size, str_size]; omega), str_append]
                    have HPD : Hid (p.length + r.length ≤ (a :: b :: t).length ∧ r.length + 128 = (a :: b :: t).length) := ⟨hpl, hdl⟩
                    clear hu hz HUN HNB HU HBAD hpl hdl
                    have hO : O.length ≤ 200000000 := by omega
                    have HRD : Hid (Rd (w2.alloc (.cells #[.string (str (text ++ p))] 9)) (w2.heap.size + 1) 1 (.slice (some ⟨w2.heap.size, 0, none⟩) 1 1) 1 (strsV [text ++ p])) := fresh_str w2 (text ++ p)
                    have hsz2 := HB2.out.size
                    go_wp2_with (at_builtin; refine wpList_append_sl _ rfl (.tmp 61) (.tmp 63) 22 rfl 9 (.string ⟨#[]⟩) 1 16 Tryd.underlying22 Tryd.infoStr rfl (by decide) rfl (by exact HSL2.out.alloc _) rfl (by exact HRD.out) strsV_one (by omega) (by unfold maxLen; omega) ?_; intro v5 w5 hs5 hm5 hd5)
                    obtain ⟨f1, f2⟩ := fresh_of (w := w) (v := u4) (by exact hm5) (by exact hd5) (HB2.out.alloc hsz2 _) HF.out
                    have HS5 : Hid (Sl w5 9 1 v5 (O ++ [text ++ p]).length (strsV (O ++ [text ++ p]))) := by
                      show Sl _ _ _ _ _ _
                      rw [List.length_append, strsV_append]; exact hs5
                    have HF1 := Lib.hid f1
                    have HF2 := Lib.hid f2
                    clear hs5 hm5 hd5 f1 f2
                    go_wp2
                    go_roundw
                    case rel => exact ⟨r, [], O ++ [text ++ p], false, rfl, rfl, rfl, HS5.out, HF1.out, HF2.out, hdm, by have := HPD.out; simp; omega, by have := HPD.out; rw [List.length_append]; simp; omega, by rw [← HU3.out, Option.map_map]; congr 1; funext x; simp⟩
                    case measure => have := HPD.out; simp only [strLen, str_size]; show r.length < (a :: b :: t).length; omega
                  · have hE2 : (str (Lib.trimB (restF (a :: b :: t) b.toNat) 0)).toList.isEmpty = false := by
                      rw [str_toList]
                      cases h : Lib.trimB (restF (a :: b :: t) b.toNat) 0 with
                      | nil => exact absurd h hz
                      | cons _ _ => rfl
                    have hR := Lib.hid (HBAD.out (by unfold badF; exact .inr (.inr (.inr (.inr hz)))))
                    clear hz
                    go_wp2
                    go_ret2
                    exact ⟨_, 2, rfl, HB2.out, .inr ⟨by rw [HRR.out, hR.out], rfl, rfl⟩⟩
  · have hmi : ¬ (s0.length : Int).tmod 128 = 0 := by rw [Int.tmod_eq_emod_of_nonneg (by omega)]; omega
    have HR : Hid (unwR s0 = none) := by show _ = _; unfold unwR; rw [if_neg hmod]
    go_enter Tryd.func8, Tryd.ntmps8
    go_wp2
    go_ret2
    exact ⟨_, 2, rfl, Below.refl _ _, .inr ⟨HR.out, rfl, rfl⟩⟩
end Go.Proofs.YtkandepkojfblaaDoor
