/- speech.number: a number's text, read. -/
import Derived.Test.YtkandepkojfblaaDoorSpSplit
import Derived.Test.YtkandepkojfblaaDoorSpNamed
import Derived.Test.YtkandepkojfblaaDoorShelfLaid
import Derived.Lib.AtoiErrMem
import Derived.WideLaws
import Derived.BigQuiet
namespace Go.Proofs.YtkandepkojfblaaDoor
open Go.RowKit

theorem below_drewN {B : Nat} {w w' : World} (h : Below B w w') (n : Nat) : Below B w (w'.drewN n) := ⟨h.os, h.tape, h.output, h.size, h.block⟩
theorem trim_any (w : World) (s : List UInt8) :
    Calls Tryd.prog 61 #[.string (str s), .string ⟨#[45]⟩] w fun e w' => e = .returned (.string (str (bareW s))) ∧ w = w' := by
  refine (Tryd.strings_TrimPrefix (str s) ⟨#[45]⟩ w).mono ?_
  rintro e w' ⟨rfl, rfl⟩
  refine ⟨?_, rfl⟩
  rw [← trim_minus]
  simp [str]
theorem atoi_any (w : World) (s : List UInt8) (hl : s.length ≤ 1000000) (n : Int) (h : Lib.atoiAll s = .ok n) :
    Calls Tryd.prog 62 #[.string (str s)] w fun e w' => e = .returned (.tuple #[.int .i64 n, .nilIface]) ∧ Below w.heap.size w w' := by
  refine (Tryd.strconv_Atoi_ok (str s) (by rw [str_size]; omega) n (by simpa [str] using h) w).mono ?_
  rintro e w' ⟨rfl, h⟩
  refine ⟨rfl, ?_⟩
  rcases h with rfl | ⟨t, rfl⟩
  · exact Below.refl _ _
  · exact Lib.bytesWorld_below _ _ _
theorem isDig_iff (c : UInt8) : digC c = (Lib.digitVal c).isSome := by
  unfold digC Lib.digitVal
  by_cases h : 48 ≤ c.toNat ∧ c.toNat ≤ 57
  · rw [if_pos h, decide_eq_true h]; rfl
  · rw [if_neg h, decide_eq_false h]; rfl
theorem dec_all : ∀ (l : List UInt8) (acc : Nat), (Lib.decFrom acc l).isSome = l.all digC
  | [], acc => rfl
  | c :: r, acc => by
    rw [Lib.decFrom, List.all_cons, isDig_iff]
    cases h : Lib.digitVal c with
    | none => rfl
    | some d => simp [dec_all r]
theorem bare_len (s : List UInt8) : (bareW s).length ≤ s.length := by
  unfold bareW
  split
  · rw [List.length_drop]; omega
  · exact Nat.le_refl _
theorem num_none_of {s : List UInt8} (h : bareW s = [] ∨ 18 < (bareW s).length ∨ (1 < (bareW s).length ∧ (bareW s).head? = some 48) ∨ s = [45, 48]) : numW s = none := by
  unfold numW; rw [if_pos h]
theorem num_none_dig {s : List UInt8} (h : (bareW s).all digC = false) : numW s = none := by
  unfold numW
  split
  · rfl
  · rw [← dec_all _ 0] at h
    cases hd : Lib.decFrom 0 (bareW s) with
    | none => rfl
    | some m => rw [hd] at h; cases h
theorem num_some {s : List UInt8} (h : ¬ (bareW s = [] ∨ 18 < (bareW s).length ∨ (1 < (bareW s).length ∧ (bareW s).head? = some 48) ∨ s = [45, 48])) (hd : (bareW s).all digC = true) : ∃ n, numW s = some n := by
  unfold numW
  rw [if_neg h]
  rw [← dec_all _ 0] at hd
  cases hm : Lib.decFrom 0 (bareW s) with
  | none => rw [hm] at hd; cases hd
  | some m => exact ⟨_, rfl⟩
def NumPost (w : World) (s : List UInt8) (e : Ending) (w' : World) : Prop :=
  e = .returned (.tuple #[.int .i64 ((numW s).getD 0), .bool (numW s).isSome]) ∧ Below w.heap.size w w'
theorem num_no {w w' : World} {s : List UInt8} (h : numW s = none) (hb : Below w.heap.size w w') : NumPost w s (.returned (.tuple #[.int .i64 0, .bool false])) w' := by
  unfold NumPost; rw [h]; exact ⟨rfl, hb⟩

set_option maxRecDepth 100000 in
set_option maxHeartbeats 3200000 in
theorem number_any (w : World) (s : List UInt8) (hl : s.length ≤ 1000000) :
    Calls Tryd.prog 48 #[.string (str s)] w (NumPost w s) := by
  have HL := Lib.hid hl
  have hbl := bare_len s
  have HT := Lib.hid (trim_any w s)
  have hz : ((str (bareW s)).size : Int) = ((bareW s).length : Int) := by rw [str_size]
  have hlb : ((bareW s).length : Int) ≤ 1000000 := by omega
  clear hl hbl
  by_cases h1 : bareW s = []
  · have HF := Lib.hid (num_none_of (.inl h1))
    rw [h1] at HT
    have hE := str_nil_e
    clear hz hlb
    go_enter Tryd.func48, Tryd.ntmps48
    go_wp2_with fail
    (with_reducible refine HT.out.mono ?_)
    rintro e w1 ⟨rfl, rfl⟩
    go_wp2_with fail
    go_ret2
    exact num_no HF.out (Below.refl _ _)
  obtain ⟨c0, t, ht⟩ : ∃ c0 t, bareW s = c0 :: t := by
    cases hb : bareW s with
    | nil => exact absurd hb h1
    | cons a b => exact ⟨a, b, rfl⟩
  have hE := str_cons_ne c0 t
  rw [← ht] at hE
  by_cases h2 : 18 < (bareW s).length
  · have HF := Lib.hid (num_none_of (.inr (.inl h2)))
    have h2' : 18 < ((bareW s).length : Int) := by omega
    clear h1 h2 ht
    generalize bareW s = u at *
    go_enter Tryd.func48, Tryd.ntmps48
    go_wp2_with fail
    (with_reducible refine HT.out.mono ?_)
    rintro e w1 ⟨rfl, rfl⟩
    go_wp2_with fail
    go_ret2
    exact num_no HF.out (Below.refl _ _)
  have hidx0 : ∀ w : World, (Instr.index 9 (.string (str (bareW s))) (.int .i64 0)).run Tryd.prog w = .ok (.int .u8 (c0.toNat : Int)) w := fun w => by
    rw [ht]
    rw [run_index_string w _ _ _ _ Tryd.underlying9, dif_pos ⟨by omega, by rw [str_size]; simp⟩]
    rfl
  have hlen1 : (0 : Int) < ((bareW s).length : Int) := by rw [ht]; simp
  have h2' : ¬ 18 < ((bareW s).length : Int) := by omega
  have HT0 := Lib.hid ht
  by_cases h3 : 1 < (bareW s).length ∧ c0 = 48
  · obtain ⟨h3a, h3b⟩ := h3
    have HF := Lib.hid (num_none_of (s := s) (.inr (.inr (.inl ⟨h3a, by rw [ht, h3b]; rfl⟩))))
    rw [h3b] at hidx0
    have hidx1 : ∀ w : World, (Instr.index 9 (.string (str (bareW s))) (.int .i64 0)).run Tryd.prog w = .ok (.int .u8 48) w := hidx0
    have h3' : 1 < ((bareW s).length : Int) := by omega
    clear h1 h2 ht h3a hidx0 hlen1 HT0
    generalize bareW s = u at *
    go_enter Tryd.func48, Tryd.ntmps48
    go_wp2_with fail
    (with_reducible refine HT.out.mono ?_)
    rintro e w1 ⟨rfl, rfl⟩
    go_wp2_with fail
    go_ret2
    exact num_no HF.out (Below.refl _ _)
  have h3c : (¬ (1 < ((bareW s).length : Int))) ∨ (1 < ((bareW s).length : Int) ∧ ((c0.toNat : Int) == 48) = false) := by
    by_cases h : 1 < (bareW s).length
    · refine .inr ⟨by omega, beq_eq_false_iff_ne.2 fun e => h3 ⟨h, UInt8.toNat_inj.1 (by show c0.toNat = 48; omega)⟩⟩
    · exact .inl (by omega)
  by_cases h4 : s = [45, 48]
  · have HF := Lib.hid (num_none_of (s := s) (.inr (.inr (.inr h4))))
    subst h4
    have hs1 : str [45, 48] = ⟨#[45, 48]⟩ := rfl
    have hs2 : str (bareW [45, 48]) = ⟨#[48]⟩ := rfl
    rw [hs2, hs1] at HT
    rw [hs1]
    clear hs1 hs2 h1 h2 ht hidx0 hlen1 HT0 h3c h3 hz hE hlb h2'
    go_enter Tryd.func48, Tryd.ntmps48
    go_wp2_with fail
    (with_reducible refine HT.out.mono ?_)
    rintro e w1 ⟨rfl, rfl⟩
    go_wp2_with fail
    go_ret2
    exact num_no HF.out (Below.refl _ _)
  have h4' : ((str s).toList == [45, 48]) = false := by
    rw [str_toList]; exact beq_eq_false_iff_ne.2 h4
  have HNS := Lib.hid (show (bareW s).all digC = true → ∃ n, numW s = some n from num_some (fun h => by
    rcases h with h | h | ⟨ha, hb⟩ | h
    · exact h1 h
    · exact h2 h
    · rw [ht] at hb; exact h3 ⟨ha, Option.some.inj hb⟩
    · exact h4 h))
  have HNN := Lib.hid (num_none_dig (s := s))
  clear h1 h2 ht h3 h4
  have HLB := Lib.hid hlb
  rcases h3c with h3 | ⟨h3, h3n⟩
  all_goals
    go_enter Tryd.func48, Tryd.ntmps48
    go_wp2_with fail
    (with_reducible refine HT.out.mono ?_)
    rintro e w1 ⟨rfl, rfl⟩
    go_wp2_with fail
    clear hidx0
    have HALL0 : Hid (((bareW s).take 0).all digC = true) := rfl
    generalize bareW s = u at *
    go_loopw [5] (fun iv wx => ∃ i : Nat, iv = .int .i64 i ∧ i ≤ u.length ∧ (u.take i).all digC = true ∧ wx = w) (fun iv _ => u.length - (intOf iv).toNat)
    case atStart => exact ⟨0, rfl, Nat.zero_le _, HALL0.out, rfl⟩
    case round =>
      obtain ⟨i, rfl, hi2, ha, rfl⟩ := hrel
      by_cases hin : i < u.length
      · have hlt : (i : Int) < (u.length : Int) := by omega
        have hidx : (Instr.index 9 (.string (str u)) (.int .i64 (i : Int))).run Tryd.prog wr = .ok (.int .u8 ((u[i]).toNat : Int)) wr := by
          rw [run_index_string wr _ _ _ _ Tryd.underlying9, dif_pos ⟨by omega, by rw [hz]; omega⟩]
          rfl
        have hwi : IntKind.i64.wrap ((i : Int) + 1) = (i : Int) + 1 := by rw [IntKind.wrap_i64]; omega
        have HA := Lib.hid (fun hc => all_step hin ha (f := digC) hc)
        have HF := Lib.hid (fun hc => all_fail hin (f := digC) hc)
        have HIN := Lib.hid hin
        generalize u[i] = c at HA HF hidx
        clear ha hin hi2
        by_cases k : digC c = true
        · have HK := Lib.hid k
          have k' : 48 ≤ c.toNat ∧ c.toNat ≤ 57 := by simpa [digC] using k
          have q1 : ¬ ((c.toNat : Int) < 48) := by omega
          have q2 : ¬ (57 < (c.toNat : Int)) := by omega
          clear k k'
          go_wp2_with fail
          refine ⟨⟨i + 1, by go_num, HIN.out, HA.out HK.out, trivial⟩, ?_⟩
          simp [intOf]; have := HIN.out; omega
        · have HK := Lib.hid (show digC c = false by simpa using k)
          have k' : ¬ (48 ≤ c.toNat ∧ c.toNat ≤ 57) := by simpa [digC] using k
          clear k
          by_cases q1 : (c.toNat : Int) < 48
          · clear k'
            go_wp2_with fail
            go_ret2
            exact num_no (HNN.out (HF.out HK.out)) (Below.refl _ _)
          · have q2 : 57 < (c.toNat : Int) := by omega
            clear k'
            go_wp2_with fail
            go_ret2
            exact num_no (HNN.out (HF.out HK.out)) (Below.refl _ _)
      · have hge : (u.length : Int) ≤ (i : Int) := by omega
        rw [List.take_of_length_le (by omega)] at ha
        obtain ⟨n, hn⟩ := HNS.out ha
        have HN := Lib.hid hn
        clear ha hn
        go_wp2_with fail
        have hnn : ∀ w : World, (binOp .eql 47 .nilIface .nilIface).run Tryd.prog w = .ok (.bool true) w := fun w => run_eql_nil_nil w _ (by kernel_rfl)
        (with_reducible refine (atoi_any _ s HL.out n (num_atoi HN.out).1).mono ?_)
        rintro e w2 ⟨rfl, hb2⟩
        have HB2 := Lib.hid hb2
        clear hb2
        go_wp2_with fail
        go_quiet (fail)
        go_wp2_with fail
        go_ret2
        exact ⟨by rw [HN.out]; rfl, below_drewN HB2.out _⟩
end Go.Proofs.YtkandepkojfblaaDoor
