/- rle.number: the walk. -/
import Derived.Test.YtlcjadgaommfmaaDoorRlC
import Derived.Test.YtlcjadgaommfmaaDoorStr
import Derived.Test.YtlcjadgaommfmaaDoorHeap
import Derived.IntWalk
import Derived.BigQuiet
import Derived.Deep.RegionHeld3
namespace Go.Proofs.YtlcjadgaommfmaaDoor
open Go.RowKit

theorem below_drewN {B : Nat} {w w' : World} (h : Below B w w') (n : Nat) : Below B w (w'.drewN n) := ⟨h.os, h.tape, h.output, h.size, h.block⟩
/-- The loop's state. -/
structure NumI (s : List UInt8) (n k : Nat) : Prop where
  k13 : k ≤ 13
  len : k ≤ s.length
  lt : n + 1 ≤ 10 ^ k
  go : numGo 13 s 0 = ((numGo (13 - k) (s.drop k) n).1, (numGo (13 - k) (s.drop k) n).2.1 + k, (numGo (13 - k) (s.drop k) n).2.2)
theorem NumI.start (s : List UInt8) : NumI s 0 0 := ⟨by omega, by omega, by simp, by simp⟩
theorem NumI.step {s : List UInt8} {n k : Nat} (h : NumI s n k) (hk : k < 13) (hl : k < s.length) (hd : isD (s[k]) = true) : NumI s (n * 10 + ((s[k]).toNat - 48)) (k + 1) := by
  have hd' := of_decide_eq_true hd
  refine ⟨by omega, by omega, ?_, ?_⟩
  · have := h.lt; rw [Nat.pow_succ]; omega
  · rw [h.go, List.drop_eq_getElem_cons hl, show 13 - k = (13 - (k + 1)) + 1 by omega, numGo, if_pos hd]
    dsimp only
    rw [Nat.add_assoc, Nat.add_comm 1 k]
theorem NumI.stop {s : List UInt8} {n k : Nat} (h : NumI s n k) (hs : k = 13 ∨ k = s.length ∨ ∃ hl : k < s.length, isD (s[k]) = false) : numGo 13 s 0 = (n, k, s.drop k) := by
  rw [h.go]
  have key : numGo (13 - k) (s.drop k) n = (n, 0, s.drop k) := by
    have h13 := h.k13
    rcases hs with h1 | h1 | ⟨hl, hd⟩
    · subst h1; rfl
    · rw [List.drop_of_length_le (by omega)]
      cases 13 - k <;> rfl
    · by_cases e : k = 13
      · subst e; rfl
      · rw [List.drop_eq_getElem_cons hl, show 13 - k = (13 - (k + 1)) + 1 by omega, numGo, if_neg (by rw [hd]; simp)]
  rw [key]
  dsimp only
  rw [Nat.zero_add]
def RNPost (w : World) (s : List UInt8) (e : Ending) (w' : World) : Prop :=
  e = .returned (.tuple #[.int .i64 ((rnum s).1 : Nat), .string (str (rnum s).2.1), .bool (rnum s).2.2]) ∧ Below w.heap.size w w'
theorem rn_end {w w' : World} {s : List UInt8} {n k : Nat} (h : numGo 13 s 0 = (n, k, s.drop k)) (b : Bool) (hb : numOk s k = b) (hw : Below w.heap.size w w') : RNPost w s (.returned (.tuple #[.int .i64 (n : Nat), .string (str (s.drop k)), .bool b])) w' := by
  unfold RNPost rnum
  rw [h]
  dsimp only
  rw [hb]
  exact ⟨rfl, hw⟩

set_option maxRecDepth 100000 in
set_option maxHeartbeats 3200000 in
theorem rlnum_any (w : World) (s : List UInt8) (hl : s.length ≤ 1000000) :
    Calls Tryd.prog 35 #[.string (str s)] w (RNPost w s) := by
  have hz : ((str s).size : Int) = (s.length : Int) := by rw [str_size]
  have hlb : (s.length : Int) ≤ 1000000 := by omega
  go_enter Tryd.func35, Tryd.ntmps35
  go_wp2_with fail
  go_loopw [5, 6] (fun nv kv wx => ∃ n k : Nat, nv = .int .i64 n ∧ kv = .int .i64 k ∧ NumI s n k ∧ wx = w) (fun _ kv _ => 14 - (intOf kv).toNat)
  case atStart => exact ⟨0, 0, rfl, rfl, NumI.start s, rfl⟩
  case round =>
    obtain ⟨n, k, rfl, rfl, hi, rfl⟩ := hrel
    have HI := Lib.hid hi
    have hk13 : (k : Int) ≤ 13 := by have := hi.k13; omega
    have hkl : (k : Int) ≤ (s.length : Int) := by have := hi.len; omega
    have hnb : (n : Int) ≤ 10000000000000 := by
      have h1 := hi.lt
      have h2 : 10 ^ k ≤ 10 ^ 13 := Nat.pow_le_pow_right (by decide) hi.k13
      omega
    clear hi
    by_cases hstep : ∃ (h1 : k < s.length), k < 13 ∧ isD (s[k]) = true
    · obtain ⟨h1, h2, h3⟩ := hstep
      have HS := Lib.hid (HI.out.step h2 h1 h3)
      have hd := of_decide_eq_true h3
      have hidx : ∀ w : World, (Instr.index 9 (.string (str s)) (.int .i64 (k : Int))).run Tryd.prog w = .ok (.int .u8 ((s[k]).toNat : Int)) w := fun w => by
        rw [run_index_string w _ _ _ _ Tryd.underlying9, dif_pos ⟨by omega, by rw [hz]; omega⟩]
        rfl
      have h1' : (k : Int) < (s.length : Int) := by omega
      have h2' : (k : Int) < 13 := by omega
      have q1 : 48 ≤ ((s[k]).toNat : Int) := by omega
      have q2 : ((s[k]).toNat : Int) ≤ 57 := by omega
      have HN : Hid (((n * 10 + ((s[k]).toNat - 48) : Nat) : Int) = (n : Int) * 10 + (((s[k]).toNat : Int) - 48)) := by show _ = _; omega
      have HK := Lib.hid h2
      generalize s[k] = c at *
      clear hd h1 h2 h3
      have w1 : IntKind.u8.wrap ((c.toNat : Int) - 48) = (c.toNat : Int) - 48 := by unfold IntKind.wrap; simp [IntKind.signed, IntKind.bits]; omega
      go_wp2_with fail
      refine ⟨⟨_, k + 1, by rw [HN.out], by go_num, HS.out, trivial⟩, ?_⟩
      simp [intOf]; have := HK.out; omega
    · have HST : Hid (numGo 13 s 0 = (n, k, s.drop k)) := HI.out.stop (by
        by_cases h1 : k < s.length
        · by_cases h2 : k < 13
          · exact .inr (.inr ⟨h1, by
              cases h : isD (s[k])
              · rfl
              · exact absurd ⟨h1, h2, h⟩ hstep⟩)
          · exact .inl (by omega)
        · exact .inr (.inl (by omega)))
      have HDR : Hid ((str s).extract ((k : Int)).toNat (str s).size = str (s.drop k)) := by show _ = _; rw [Int.toNat_natCast]; exact str_drop s k
      have hreason : (k < s.length ∧ k < 13 ∧ ∃ c : UInt8, (∀ w : World, (Instr.index 9 (.string (str s)) (.int .i64 (k : Int))).run Tryd.prog w = .ok (.int .u8 (c.toNat : Int)) w) ∧ ((c.toNat : Int) < 48 ∨ 57 < (c.toNat : Int))) ∨ (k < s.length ∧ k = 13) ∨ k = s.length := by
        by_cases h1 : k < s.length
        · by_cases h2 : k < 13
          · refine .inl ⟨h1, h2, s[k], fun w => ?_, ?_⟩
            · rw [run_index_string w _ _ _ _ Tryd.underlying9, dif_pos ⟨by omega, by rw [hz]; omega⟩]
              rfl
            · have h3 : ¬ isD (s[k]) = true := fun h => hstep ⟨h1, h2, h⟩
              have h4 : ¬ (48 ≤ (s[k]).toNat ∧ (s[k]).toNat ≤ 57) := fun h => h3 (decide_eq_true h)
              omega
          · exact .inr (.inl ⟨h1, by omega⟩)
        · exact .inr (.inr (by omega))
      have hres : (k = 0 ∧ numOk s k = false) ∨ (k = 13 ∧ numOk s k = false) ∨ (k = 1 ∧ numOk s k = true) ∨ ((1 < k ∧ k < 13) ∧ ∃ c : UInt8, (∀ w : World, (Instr.index 9 (.string (str s)) (.int .i64 0)).run Tryd.prog w = .ok (.int .u8 (c.toNat : Int)) w) ∧ ((((c.toNat : Int) != 48) = true ∧ numOk s k = true) ∨ (((c.toNat : Int) != 48) = false ∧ numOk s k = false))) := by
        have h13 := HI.out.k13
        have hll := HI.out.len
        by_cases e0 : k = 0
        · exact .inl ⟨e0, by subst e0; rfl⟩
        by_cases e13 : k = 13
        · exact .inr (.inl ⟨e13, by subst e13; unfold numOk; exact decide_eq_false (by omega)⟩)
        by_cases e1 : k = 1
        · exact .inr (.inr (.inl ⟨e1, by subst e1; unfold numOk; exact decide_eq_true (by omega)⟩))
        refine .inr (.inr (.inr ⟨by omega, ?_⟩))
        cases s with
        | nil => simp at hll; omega
        | cons c r =>
          refine ⟨c, fun w => ?_, ?_⟩
          · rw [run_index_string w _ _ _ _ Tryd.underlying9, dif_pos ⟨by omega, by rw [hz]; simp⟩]
            rfl
          · by_cases hc : c = 48
            · subst hc
              exact .inr ⟨rfl, by unfold numOk; exact decide_eq_false (by simp; omega)⟩
            · refine .inl ⟨?_, by unfold numOk; exact decide_eq_true ⟨by omega, by omega, .inr (by simpa using hc)⟩⟩
              simp only [bne_iff_ne, ne_eq]
              exact fun e => hc (UInt8.toNat_inj.1 (by show c.toNat = 48; omega))
      clear hstep hnb
      have HI2 := HI
      clear HI
      have hdr := HDR.out
      rcases hreason with ⟨r1, r2, c, hidx, hcc⟩ | ⟨r1, r2⟩ | r1
      · have r1' : (k : Int) < (s.length : Int) := by omega
        have r2' : (k : Int) < 13 := by omega
        rcases hcc with hcc | hcc
        all_goals
          rcases hres with ⟨e, ho⟩ | ⟨e, ho⟩ | ⟨e, ho⟩ | ⟨⟨e, e2⟩, c0, hi0, ⟨hb, ho⟩ | ⟨hb, ho⟩⟩
          · have g0 : decide (0 < (k : Int)) = false := decide_eq_false (by omega)
            have HO := Lib.hid ho
            clear e ho
            have hk0 : 0 ≤ (k : Int) := by omega
            generalize hK : (k : Int) = K at *
            clear hK
            go_wp2_with fail
            go_quiet (fail)
            go_wp2_with fail
            go_ret3
            exact rn_end HST.out _ HO.out (below_drewN (Below.refl _ _) _)
          · omega
          · have g0 : decide (0 < (k : Int)) = true := decide_eq_true (by omega)
            have g1 : decide ((k : Int) < 13) = true := decide_eq_true (by omega)
            have g2 : ((k : Int) == 1) = true := by simp; omega
            have HO := Lib.hid ho
            clear e ho
            have hk0 : 0 ≤ (k : Int) := by omega
            generalize hK : (k : Int) = K at *
            clear hK
            go_wp2_with fail
            go_quiet (fail)
            go_wp2_with fail
            go_ret3
            exact rn_end HST.out _ HO.out (below_drewN (Below.refl _ _) _)
          · have g0 : decide (0 < (k : Int)) = true := decide_eq_true (by omega)
            have g1 : decide ((k : Int) < 13) = true := decide_eq_true (by omega)
            have g2 : ((k : Int) == 1) = false := by simp; omega
            have HO := Lib.hid ho
            clear e e2 ho
            have hk0 : 0 ≤ (k : Int) := by omega
            generalize hK : (k : Int) = K at *
            clear hK
            go_wp2_with fail
            go_quiet (fail)
            go_wp2_with fail
            go_ret3
            exact rn_end HST.out _ HO.out (below_drewN (Below.refl _ _) _)
          · have g0 : decide (0 < (k : Int)) = true := decide_eq_true (by omega)
            have g1 : decide ((k : Int) < 13) = true := decide_eq_true (by omega)
            have g2 : ((k : Int) == 1) = false := by simp; omega
            have HO := Lib.hid ho
            clear e e2 ho
            have hk0 : 0 ≤ (k : Int) := by omega
            generalize hK : (k : Int) = K at *
            clear hK
            go_wp2_with fail
            go_quiet (fail)
            go_wp2_with fail
            go_ret3
            exact rn_end HST.out _ HO.out (below_drewN (Below.refl _ _) _)
      · have r1' : (k : Int) < (s.length : Int) := by omega
        have r2' : ¬ (k : Int) < 13 := by omega
        rcases hres with ⟨e, ho⟩ | ⟨e, ho⟩ | ⟨e, ho⟩ | ⟨⟨e, e2⟩, c0, hi0, ⟨hb, ho⟩ | ⟨hb, ho⟩⟩
        · omega
        · have g0 : decide (0 < (k : Int)) = true := decide_eq_true (by omega)
          have g1 : decide ((k : Int) < 13) = false := decide_eq_false (by omega)
          have HO := Lib.hid ho
          clear e ho r1 r2
          have hk0 : 0 ≤ (k : Int) := by omega
          generalize hK : (k : Int) = K at *
          clear hK
          go_wp2_with fail
          go_quiet (fail)
          go_wp2_with fail
          go_ret3
          exact rn_end HST.out _ HO.out (below_drewN (Below.refl _ _) _)
        · omega
        · omega
        · omega
      · have r1' : ¬ (k : Int) < (s.length : Int) := by omega
        rcases hres with ⟨e, ho⟩ | ⟨e, ho⟩ | ⟨e, ho⟩ | ⟨⟨e, e2⟩, c0, hi0, ⟨hb, ho⟩ | ⟨hb, ho⟩⟩
        · have g0 : decide (0 < (k : Int)) = false := decide_eq_false (by omega)
          have HO := Lib.hid ho
          clear e ho r1
          have hk0 : 0 ≤ (k : Int) := by omega
          generalize hK : (k : Int) = K at *
          clear hK
          go_wp2_with fail
          go_quiet (fail)
          go_wp2_with fail
          go_ret3
          exact rn_end HST.out _ HO.out (below_drewN (Below.refl _ _) _)
        · have g0 : decide (0 < (k : Int)) = true := decide_eq_true (by omega)
          have g1 : decide ((k : Int) < 13) = false := decide_eq_false (by omega)
          have HO := Lib.hid ho
          clear e ho r1
          have hk0 : 0 ≤ (k : Int) := by omega
          generalize hK : (k : Int) = K at *
          clear hK
          go_wp2_with fail
          go_quiet (fail)
          go_wp2_with fail
          go_ret3
          exact rn_end HST.out _ HO.out (below_drewN (Below.refl _ _) _)
        · have g0 : decide (0 < (k : Int)) = true := decide_eq_true (by omega)
          have g1 : decide ((k : Int) < 13) = true := decide_eq_true (by omega)
          have g2 : ((k : Int) == 1) = true := by simp; omega
          have HO := Lib.hid ho
          clear e ho r1
          have hk0 : 0 ≤ (k : Int) := by omega
          generalize hK : (k : Int) = K at *
          clear hK
          go_wp2_with fail
          go_quiet (fail)
          go_wp2_with fail
          go_ret3
          exact rn_end HST.out _ HO.out (below_drewN (Below.refl _ _) _)
        · have g0 : decide (0 < (k : Int)) = true := decide_eq_true (by omega)
          have g1 : decide ((k : Int) < 13) = true := decide_eq_true (by omega)
          have g2 : ((k : Int) == 1) = false := by simp; omega
          have HO := Lib.hid ho
          clear e e2 ho r1
          have hk0 : 0 ≤ (k : Int) := by omega
          generalize hK : (k : Int) = K at *
          clear hK
          go_wp2_with fail
          go_quiet (fail)
          go_wp2_with fail
          go_ret3
          exact rn_end HST.out _ HO.out (below_drewN (Below.refl _ _) _)
        · have g0 : decide (0 < (k : Int)) = true := decide_eq_true (by omega)
          have g1 : decide ((k : Int) < 13) = true := decide_eq_true (by omega)
          have g2 : ((k : Int) == 1) = false := by simp; omega
          have HO := Lib.hid ho
          clear e e2 ho r1
          have hk0 : 0 ≤ (k : Int) := by omega
          generalize hK : (k : Int) = K at *
          clear hK
          go_wp2_with fail
          go_quiet (fail)
          go_wp2_with fail
          go_ret3
          exact rn_end HST.out _ HO.out (below_drewN (Below.refl _ _) _)
end Go.Proofs.YtlcjadgaommfmaaDoor
