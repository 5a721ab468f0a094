/- frame.Cut: the walk. -/
import Derived.Test.YtkandepkojfblaaDoorCutP
import Derived.Test.YtkandepkojfblaaDoorShelfLaid
import Derived.Laws.Concat
import Derived.Deep.DeepCutAuto
import Derived.BigQuiet
import Derived.IntWalk
namespace Go.Proofs.YtkandepkojfblaaDoor
open Go.RowKit

def strsV (l : List (List UInt8)) : List Value := l.map fun s => .string (str s)
theorem strsV_append (l m : List (List UInt8)) : strsV (l ++ m) = strsV l ++ strsV m := by simp [strsV]
theorem strsV_one {l : List (List UInt8)} : ∀ u ∈ strsV l, u.oneCell' = true := fun u hu => by
  obtain ⟨c, _, rfl⟩ := List.mem_map.1 hu; rfl
theorem strsV_length (l : List (List UInt8)) : (strsV l).length = l.length := by simp [strsV]
theorem Tryd.infoStr : (Tryd.prog.info? 9).map (fun i => (i.zero, i.size, i.bytes)) = some (some (.string ⟨#[]⟩), 1, 16) := by kernel_rfl
theorem fresh_str (w : World) (c : List UInt8) : Rd (w.alloc (.cells #[.string (str c)] 9)) (w.heap.size + 1) 1 (.slice (some ⟨w.heap.size, 0, none⟩) 1 1) 1 (strsV [c]) :=
  Rd.fresh w 9 #[.string (str c)] 1 1 rfl (by unfold maxLen; omega)
theorem strs_at {w : World} {B n : Nat} {A : Option Addr} {cap : Nat} {T : List (List UInt8)} (h : Rd w B 1 (.slice A n cap) n (strsV T)) (hl : T.length = n) {j : Nat} (hj : j < n) :
    ∃ b off, A = some ⟨b, off, none⟩ ∧ b < B ∧ w.cell? ⟨b, off + j, none⟩ = some (.string (str T[j]!)) := by
  obtain ⟨b, off, cap', e, _, _, hb, hc⟩ := h.at (by omega)
  injection e with e1 _ _
  exact ⟨b, off, e1, hb, hc j _ (by simp [strsV, List.getElem!_eq_getElem?_getD, List.getElem?_eq_getElem (show j < T.length by omega)])⟩

theorem splitL_len : ∀ (s : List UInt8), (splitL s).length ≤ s.length + 1 ∧ ∀ q ∈ splitL s, q.length ≤ s.length
  | [] => by simp [splitL]
  | c :: s => by
    obtain ⟨h1, h2⟩ := splitL_len s
    rw [splitL]
    split
    · refine ⟨by simp; omega, fun q hq => ?_⟩
      rw [List.mem_cons] at hq
      rcases hq with rfl | hq
      · simp
      · have := h2 q hq; simp; omega
    · cases h : splitL s with
      | nil => simp
      | cons p r =>
        rw [h] at h1 h2
        refine ⟨by simpa using Nat.le_succ_of_le h1, fun q hq => ?_⟩
        rw [List.mem_cons] at hq
        rcases hq with rfl | hq
        · have := h2 p (by simp); simp; omega
        · have := h2 q (by simp [hq]); simp; omega

def SplitPost (w : World) (l : List UInt8) (e : Ending) (w' : World) : Prop :=
  ∃ N, e = .returned (.slice (some ⟨w.heap.size, 0, none⟩) (splitL l).length N) ∧ Rd w' w'.heap.size 1 (.slice (some ⟨w.heap.size, 0, none⟩) (splitL l).length N) (splitL l).length (strsV (splitL l)) ∧ Below w.heap.size w w' ∧ w.heap.size < w'.heap.size
set_option maxRecDepth 100000 in
theorem split_after (w : World) (m : Int) (hm : w.cell? ⟨4, 0, none⟩ = some (.int .i64 m)) (l : List UInt8) (hl : l.length < 4294967281) :
    Calls Tryd.prog 38 #[.string (str l), .string ⟨#[10]⟩] w (SplitPost w l) := by
  have hc := Lib.countB_le (str [10]) (by simp [str_size]) _ (str l) (Nat.le_refl _)
  have hsp := split_lines _ l rfl
  have HC : Hid (∀ w : World, w.cell? ⟨4, 0, none⟩ = some (.int .i64 m) → Calls Tryd.prog 43 #[.string (str l), .string ⟨#[10]⟩, .int .i64 1, .int .i64 (-1)] w fun e w' => e = .returned (.slice (some ⟨w.heap.size, 0, none⟩) (splitL l).length (Lib.countB (str l) (str [10]) + 1)) ∧ w' = w.alloc (.cells (Lib.cellsOf ((splitL l).map str) (Lib.countB (str l) (str [10]) + 1)) 9)) := fun w hm => by
    have h := Tryd.strings_genSplit (str l) (str [10]) 1 (-1) (Lib.countB (str l) (str [10]) + 1) m w (by rw [str_size]; exact hl) hm (by simp [str_size]) (by simp [str_size]) (by decide) (by decide) (by
      rw [if_pos (by decide), Int.min_eq_left (by omega)]; rfl)
    rw [Nat.add_sub_cancel, hsp, List.length_map] at h
    exact h
  have HM := Lib.hid hm
  have HL : Hid ((splitL l).length ≤ Lib.countB (str l) (str [10]) + 1 ∧ Lib.countB (str l) (str [10]) + 1 ≤ 4294967281) := ⟨by
    have := Lib.splitB_length_le (str [10]) 1 (Lib.countB (str l) (str [10])) (str l)
    rw [hsp, List.length_map] at this; exact this, by rw [str_size] at hc; omega⟩
  clear hc hsp hm
  generalize Lib.countB (str l) (str [10]) + 1 = N at HC HL
  go_enter Tryd.func38, Tryd.ntmps38
  go_wp2_with fail
  (with_reducible refine (HC.out _ HM.out).mono ?_)
  rintro e w' ⟨rfl, rfl⟩
  go_wp2
  go_ret
  refine ⟨N, rfl, ?_, (Below.refl _ _).alloc (Nat.le_refl _) _, by rw [World.size_alloc]; omega⟩
  refine ⟨by rw [strsV_length, Nat.mul_one], _, _, rfl, HL.out.1, by have := HL.out.2; unfold maxLen; omega, fun _ => ⟨_, _, rfl, by rw [World.size_alloc]; omega, fun j u hj => ?_⟩⟩
  rw [(Blk.new w 9 _).cell]
  unfold Lib.cellsOf
  rw [Nat.zero_add, List.getElem?_toArray, List.getElem?_append_left (by
    have := List.getElem?_eq_some_iff.1 hj
    obtain ⟨h, _⟩ := this
    simpa [strsV] using h)]
  simpa [strsV] using hj

theorem has_suffix (w : World) (l : List UInt8) (hl : l.length ≤ 9223372036854775807) :
    Calls Tryd.prog 39 #[.string (str l), .string ⟨#[10]⟩] w fun e w' => e = .returned (.bool (Lib.hasSuffix l [10])) ∧ w = w' := by
  refine (Tryd.strings_HasSuffix (str l) ⟨#[10]⟩ w (by rw [str_size]; exact hl)).mono ?_
  rintro e w' ⟨rfl, rfl⟩
  exact ⟨by simp [str], rfl⟩

def CutPost (w : World) (k l : List UInt8) (e : Ending) (w' : World) : Prop :=
  ∃ v, e = .returned (.tuple #[v, .string (str (feed k l).2)]) ∧ Sl w' 9 1 v (feed k l).1.length (strsV (feed k l).1) ∧ (∀ q, sblk v = some q → w.heap.size ≤ q) ∧ Below w.heap.size w w'


set_option maxRecDepth 100000 in
set_option maxHeartbeats 3200000 in
theorem cut_any (w : World) (m : Int) (hm : w.cell? ⟨4, 0, none⟩ = some (.int .i64 m)) (k0 l : List UInt8) (hl : l.length ≤ 1100000) (hk : k0.length ≤ 6001) (hnl : (10 : UInt8) ∉ k0) :
    Calls Tryd.prog 18 #[.string (str k0), .string (str l)] w (CutPost w k0 l) := by
  have HM := Lib.hid hm
  have HT : Hid (feedP k0 (splitL l) = feed k0 l) := feedP_split _ l k0 (Nat.le_refl _) hnl hk
  obtain ⟨hn1, hn2⟩ := splitL_len l
  have HQ : Hid (∀ q ∈ splitL l, q.length ≤ 1100000) := fun q hq => Nat.le_trans (hn2 q hq) hl
  clear hm hn2
  go_enter Tryd.func18, Tryd.ntmps18
  go_wp2_with fail
  (with_reducible refine (split_after _ m HM.out l (by omega)).mono ?_)
  rintro e w1 ⟨N, rfl, hr1, hb1, hz1⟩
  have HB1 := Lib.hid hb1
  obtain ⟨_, A', cap', he', _, _, hcell⟩ := hr1
  injection he' with he1 _ he3
  subst he1 he3
  have HP : Hid (∀ j, j < (splitL l).length → w1.cell? ⟨w.heap.size, j, none⟩ = some (.string (str (splitL l)[j]!))) := fun j hj => by
    obtain ⟨b, off, e, _, hc⟩ := hcell (by omega)
    injection e with e
    injection e with e1 e2 _
    subst e1 e2
    have := hc j (.string (str (splitL l)[j]!)) (by simp [strsV, List.getElem!_eq_getElem?_getD, List.getElem?_eq_getElem hj])
    simpa using this
  clear hb1 hcell
  generalize hP : splitL l = P at *
  clear hP
  have HZ1 : Hid (w.heap.size < w1.heap.size) := hz1
  generalize hnP : P.length = nP at hn1
  have HNP := Lib.hid hnP
  clear hnP
  have hn1i : (nP : Int) ≤ 1100001 := by omega
  have HNIL := Lib.hid (Sl.nil w1 9 1)
  have hk1 : Hid (feedP k0 P = feed k0 l) := HT
  go_wp2_with fail
  go_loopw [0, 6, 13] (fun kv ov iv wx => ∃ (j : Nat) (k : List UInt8) (O : List (List UInt8)), j ≤ nP ∧ iv = .int .i64 j ∧ kv = .string (str k) ∧ Sl wx 9 1 ov O.length (strsV O) ∧ (∀ q, sblk ov = some q → w1.heap.size ≤ q) ∧ Below w1.heap.size w1 wx ∧
      O ++ (feedP k (P.drop j)).1 = (feed k0 l).1 ∧ (feedP k (P.drop j)).2 = (feed k0 l).2 ∧ k.length ≤ 6001 ∧ O.length ≤ j) (fun _ _ iv _ => nP - (intOf iv).toNat)
  case atStart => exact ⟨0, k0, [], Nat.zero_le _, rfl, rfl, HNIL.out, fun q hq => by simp [sblk] at hq, Below.refl _ _, by rw [List.drop_zero, HT.out]; rfl, by rw [List.drop_zero, HT.out], hk, Nat.le_refl _⟩
  case round =>
    obtain ⟨j, k, O, hj, rfl, rfl, hs, hf, hb, hO1, hO2, hkl, hOl⟩ := hrel
    have HS := Lib.hid hs
    have HF := Lib.hid hf
    have HB := Lib.hid hb
    have hsz := hb.size
    by_cases hlt : j < nP
    · have hget : P[j]? = some P[j]! := by rw [List.getElem!_eq_getElem?_getD, List.getElem?_eq_getElem (by rw [HNP.out]; exact hlt)]; rfl
      have hq := HQ.out _ (List.mem_of_getElem? hget)
      have hdrop : P.drop j = P[j]! :: P.drop (j + 1) := by
        rw [← List.getElem_cons_drop (by rw [HNP.out]; exact hlt : j < P.length)]
        congr 1
        rw [List.getElem?_eq_getElem (by rw [HNP.out]; exact hlt)] at hget
        exact Option.some.inj hget
      have hc := HP.out j (by rw [HNP.out]; exact hlt)
      rw [← hb.cell (p := ⟨w.heap.size, j, none⟩) HZ1.out] at hc
      generalize P[j]! = q at hq hdrop hc
      rw [hdrop] at hO1 hO2
      rw [feedP] at hO1 hO2
      have HO1 := Lib.hid hO1
      have HO2 := Lib.hid hO2
      have eadd : ∀ w, (Op.stringOp .add (str k) (str q)).run Tryd.prog w = .ok (.string (str (k ++ q))) w := fun w => by
        rw [run_string_add_sum w _ _ (by rw [str_size, str_size]; omega), str_append]
      have hlen : (k ++ q).length ≤ 1110000 := by rw [List.length_append]; omega
      have HPS : Hid (partStep k q = if Lib.hasSuffix (k ++ q) [10] then ([lineOf ((k ++ q).take ((k ++ q).length - 1))], []) else ([], (k ++ q).take 6001)) := rfl
      generalize k ++ q = kq at eadd hlen HPS
      clear hs hf hb hO1 hO2 hdrop hget
      go_wp2_with fail
      (with_reducible refine (has_suffix _ kq (by omega)).mono ?_)
      rintro e wq ⟨rfl, rfl⟩
      clear eadd hc
      generalize hsuf : Lib.hasSuffix kq [10] = b at HPS
      have HSUF := Lib.hid hsuf
      clear hsuf
      cases b
      · have HP2 : Hid (partStep k q = ([], kq.take 6001)) := HPS.out
        rw [HP2.out] at HO1 HO2
        have hsz2 : ((str kq).size : Int) = (kq.length : Int) := by rw [str_size]
        have het := str_take kq 6001
        by_cases hbig : (6001 : Int) < (kq.length : Int)
        · go_wp2_with fail
          go_roundw
          case rel => exact ⟨j + 1, kq.take 6001, O, by omega, by go_num, rfl, HS.out, HF.out, HB.out, by simpa using HO1.out, HO2.out, by rw [List.length_take]; omega, by omega⟩
          case measure => simp [intOf]; omega
        · have htk : kq.take 6001 = kq := List.take_of_length_le (by omega)
          rw [htk] at HO1 HO2
          go_wp2_with fail
          go_roundw
          case rel => exact ⟨j + 1, kq, O, by omega, by go_num, rfl, HS.out, HF.out, HB.out, by simpa using HO1.out, HO2.out, by omega, by omega⟩
          case measure => simp [intOf]; omega
      · have HP2 : Hid (partStep k q = ([lineOf (kq.take (kq.length - 1))], [])) := HPS.out
        rw [HP2.out] at HO1 HO2
        have hpos : 1 ≤ kq.length := by
          rcases Nat.eq_zero_or_pos kq.length with h0 | h0
          · have : kq = [] := List.eq_nil_of_length_eq_zero h0
            subst this
            have := HSUF.out
            simp [Lib.hasSuffix] at this
          · exact h0
        have hsz2 : ((str kq).size : Int) = (kq.length : Int) := by rw [str_size]
        have hx := str_take kq (kq.length - 1)
        have hLl : (kq.take (kq.length - 1)).length = kq.length - 1 := by rw [List.length_take]; omega
        generalize kq.take (kq.length - 1) = L at hx hLl HO1 HP2
        have hszL : ((str L).size : Int) = (L.length : Int) := by rw [str_size]
        by_cases hbig : (6000 : Int) < (L.length : Int)
        · have HLN : Hid (lineOf L = [0]) := by show _ = _; unfold lineOf; rw [if_pos (by omega)]
          have HRD : Hid (Rd (wr.alloc (.cells #[.string ⟨#[0]⟩] 9)) (wr.heap.size + 1) 1 (.slice (some ⟨wr.heap.size, 0, none⟩) 1 1) 1 (strsV [[0]])) := fresh_str wr [0]
          go_wp2_with (at_builtin; refine wpList_append_sl _ rfl (.tmp 30) (.tmp 32) 22 rfl 9 (.string ⟨#[]⟩) 1 16 Tryd.underlying22 Tryd.infoStr rfl (by decide) rfl (by exact HS.out.alloc _) rfl (by exact HRD.out) strsV_one (by omega) (by unfold maxLen; omega) ?_; intro v5 w5 hs5 hm5 hd5)
          obtain ⟨f1, f2⟩ := fresh_of (w := w1) (v := u6) (by exact hm5) (by exact hd5) (HB.out.alloc hsz _) HF.out
          have HS5 : Hid (Sl w5 9 1 v5 (O ++ [lineOf L]).length (strsV (O ++ [lineOf L]))) := by
            show Sl _ _ _ _ _ _
            rw [List.length_append, strsV_append, HLN.out]; exact hs5
          have HF1 := Lib.hid f1
          have HF2 := Lib.hid f2
          clear hs5 hm5 hd5 f1 f2
          go_wp2
          go_roundw
          case rel => exact ⟨j + 1, [], O ++ [lineOf L], by omega, by go_num, rfl, HS5.out, HF1.out, HF2.out, by rw [← HO1.out]; simp, HO2.out, by simp, by rw [List.length_append]; simp; omega⟩
          case measure => simp [intOf]; omega
        · have HLN : Hid (lineOf L = L) := by show _ = _; unfold lineOf; rw [if_neg (by omega)]
          have HRD : Hid (Rd (wr.alloc (.cells #[.string (str L)] 9)) (wr.heap.size + 1) 1 (.slice (some ⟨wr.heap.size, 0, none⟩) 1 1) 1 (strsV [L])) := fresh_str wr L
          go_wp2_with (at_builtin; refine wpList_append_sl _ rfl (.tmp 30) (.tmp 32) 22 rfl 9 (.string ⟨#[]⟩) 1 16 Tryd.underlying22 Tryd.infoStr rfl (by decide) rfl (by exact HS.out.alloc _) rfl (by exact HRD.out) strsV_one (by omega) (by unfold maxLen; omega) ?_; intro v5 w5 hs5 hm5 hd5)
          obtain ⟨f1, f2⟩ := fresh_of (w := w1) (v := u6) (by exact hm5) (by exact hd5) (HB.out.alloc hsz _) HF.out
          have HS5 : Hid (Sl w5 9 1 v5 (O ++ [lineOf L]).length (strsV (O ++ [lineOf L]))) := by
            show Sl _ _ _ _ _ _
            rw [List.length_append, strsV_append, HLN.out]; exact hs5
          have HF1 := Lib.hid f1
          have HF2 := Lib.hid f2
          clear hs5 hm5 hd5 f1 f2
          go_wp2
          go_roundw
          case rel => exact ⟨j + 1, [], O ++ [lineOf L], by omega, by go_num, rfl, HS5.out, HF1.out, HF2.out, by rw [← HO1.out]; simp, HO2.out, by simp, by rw [List.length_append]; simp; omega⟩
          case measure => simp [intOf]; omega
    · obtain rfl : j = nP := by omega
      rw [List.drop_of_length_le (by rw [HNP.out]; exact Nat.le_refl _)] at hO1 hO2
      have HO1 : Hid (O = (feed k0 l).1) := by show _ = _; rw [← hO1, feedP]; simp
      have HO2 : Hid (k = (feed k0 l).2) := hO2
      clear hs hf hb hO1 hO2
      go_wp2
      go_ret2
      exact ⟨_, by rw [← HO2.out]; rfl, by rw [← HO1.out]; exact HS.out, fun q hq => Nat.le_trans (Nat.le_of_lt HZ1.out) (HF.out q hq), HB1.out.trans (HB.out.mono (Nat.le_of_lt HZ1.out))⟩
end Go.Proofs.YtkandepkojfblaaDoor
