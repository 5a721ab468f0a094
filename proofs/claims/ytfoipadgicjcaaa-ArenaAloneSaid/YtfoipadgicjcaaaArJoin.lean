/- arena: Join, Note, Recall. -/
import Derived.Test.YtfoipadgicjcaaaArGive
namespace Go.Proofs.Ytfoipadgicjcaaa
open Go.RowKit

def qAt (q0 q1 q2 q3 : Int) (j : Nat) : Int := if j = 0 then q0 else if j = 1 then q1 else if j = 2 then q2 else q3
/-- What Join does, and what it tells. -/
inductive JoinR (S : ArS) (t : Nat) (q0 q1 q2 q3 : Int) : Int → Int → ArS → Prop
  | none (j : Nat) : j < 4 → ownsB S t (qAt q0 q1 q2 q3 j) 0 = false → JoinR S t q0 q1 q2 q3 0 6 S
  | level (j : Nat) : (∀ j, j < 4 → ownsB S t (qAt q0 q1 q2 q3 j) 0 = true) → j < 4 → levelOf S (qAt q0 q1 q2 q3 j) ≠ levelOf S q0 ∨ 44 ≤ levelOf S q0 → JoinR S t q0 q1 q2 q3 0 8 S
  | gives (r x : Int) (S' : ArS) : (∀ j, j < 4 → ownsB S t (qAt q0 q1 q2 q3 j) 0 = true) → (∀ j, j < 4 → levelOf S (qAt q0 q1 q2 q3 j) = levelOf S q0) → levelOf S q0 < 44 → GiveR S t ⟨0, q0, q1, q2, q3⟩ (levelOf S q0 + 1) 0 r x S' → JoinR S t q0 q1 q2 q3 r x S'
theorem idx4 (q0 q1 q2 q3 : Int) (i : Nat) (hi : i < 4) (w : World) : (Instr.index 37 (.agg #[.int .i64 q0, .int .i64 q1, .int .i64 q2, .int .i64 q3]) (.int .i64 (i : Int))).run Try.prog w = .ok (.int .i64 (qAt q0 q1 q2 q3 i)) w := by
  rcases (by omega : i = 0 ∨ i = 1 ∨ i = 2 ∨ i = 3) with rfl | rfl | rfl | rfl <;> kernel_rfl
theorem own_i64 {S : ArS} (hI : Inv S) {t : Nat} {id kind : Int} (h : ownsB S t id kind = true) : i64r id := by
  obtain ⟨i, e, h1, h2, _⟩ := owns_range hI.len h
  have := hI.lenN
  exact ⟨by omega, by omega⟩
theorem level_pos {S : ArS} (hI : Inv S) (id : Int) : 0 ≤ levelOf S id ∧ levelOf S id ≤ 44 := by
  unfold levelOf
  cases he : S.ents[id.toNat]? with
  | none => exact ⟨Int.le_refl _, by decide⟩
  | some e => have := hI.keys e (List.mem_of_getElem? he); exact ⟨this.2.1, this.2.2.1⟩
def JoinPost (w : World) (p : Nat) (R : ArR) (S : ArS) (t : Nat) (q0 q1 q2 q3 : Int) (e : Ending) (w' : World) : Prop :=
  ∃ (r x : Int) (S' : ArS) (R' : ArR), e = .returned (.tuple #[.int .i64 r, .int .i64 x]) ∧ JoinR S t q0 q1 q2 q3 r x S' ∧ ArM w' p R' S' ∧ Step p R R' w w'

set_option maxRecDepth 100000 in
set_option maxHeartbeats 3200000 in
theorem join_any (w : World) (p : Nat) (R : ArR) (S : ArS) (h : ArM w p R S) (hI : Inv S) (hl : S.live = S.size) (t : Nat) (ht : t < 64) (hal : (S.added t).length ≤ 1000000) (q0 q1 q2 q3 : Int) :
    Calls Try.prog 19 #[.pointer (some ⟨p, 0, none⟩), .int .i64 t, .agg #[.int .i64 q0, .int .i64 q1, .int .i64 q2, .int .i64 q3]] w (JoinPost w p R S t q0 q1 q2 q3) := by
  have H := Lib.hid h
  have HI := Lib.hid hI
  have HL := Lib.hid hl
  have HLN := Lib.hid hal
  have k4 : (t : Int) < 64 := by omega
  clear h hI hl hal
  go_enter Try.func19, Try.ntmps19
  go_wp2_with fail
  (with_reducible refine (tenant_any _ t).mono ?_)
  rintro e wq ⟨rfl, rfl⟩
  rw [decide_eq_true (show 0 ≤ (t : Int) ∧ (t : Int) < 64 by omega)]
  go_wp2_with fail
  generalize hw2 : World.alloc _ _ = w2
  have HA2 : Hid (ArM w2 p R S) := by subst hw2; exact H.out.alloc _
  have HS2 : Hid (Step p R R w w2) := by subst hw2; exact (Step.refl p R w).alloc _
  have HB2 : Hid (Blk w2 w.heap.size 37 #[.int .i64 q0, .int .i64 q1, .int .i64 q2, .int .i64 q3]) := by subst hw2; exact Blk.new w _ _
  clear hw2
  go_loopw [19] (fun iv wx => ∃ i : Nat, iv = .int .i64 i ∧ i ≤ 4 ∧ (∀ j, j < i → ownsB S t (qAt q0 q1 q2 q3 j) 0 = true) ∧ wx = w2) (fun iv _ => 4 - (intOf iv).toNat)
  case atStart => exact ⟨0, rfl, Nat.zero_le _, fun j hj => absurd hj (Nat.not_lt_zero _), rfl⟩
  case round =>
    obtain ⟨i, rfl, hi, ho, rfl⟩ := hrel
    have HO := Lib.hid ho
    clear ho
    by_cases hi4 : i < 4
    · have hq := fun w => idx4 q0 q1 q2 q3 i hi4 w
      have HB := Lib.hid (owns_any wr p R S HA2.out HI.out.len t ht (qAt q0 q1 q2 q3 i) 0)
      have HI4 := Lib.hid hi4
      have hlt : (i : Int) < 4 := by omega
      have hwi := wrap_nat' i (by unfold maxLen; omega)
      clear hi4 hi
      cases hb : ownsB S t (qAt q0 q1 q2 q3 i) 0
      · rw [hb] at HB
        have HN := Lib.hid hb
        clear hb
        go_wp2_with fail
        (with_reducible refine HB.out.mono ?_)
        rintro e wq ⟨rfl, rfl⟩
        go_wp2_with fail
        go_returns
        exact ⟨0, 6, S, R, rfl, .none _ HI4.out HN.out, HA2.out, HS2.out⟩
      · rw [hb] at HB
        have HN := Lib.hid hb
        clear hb
        go_wp2_with fail
        (with_reducible refine HB.out.mono ?_)
        rintro e wq ⟨rfl, rfl⟩
        go_wp2_with fail
        go_roundw
        case rel =>
          refine ⟨i + 1, by go_num, HI4.out, fun j hj => ?_, trivial⟩
          rcases Nat.lt_succ_iff_lt_or_eq.1 hj with h | h
          · exact HO.out j h
          · rw [h]; exact HN.out
        case measure => simp [intOf]; have := HI4.out; omega
    · have hi5 : i = 4 := by omega
      subst hi5
      obtain ⟨i0, e0, hi0, hil0, he0⟩ := owns_range HI.out.len (HO.out 0 (by omega))
      obtain ⟨b, off, cap, hlv, hc1, hc2, hc, hfr⟩ := HA2.out.ents (by have := HI.out.len; omega)
      have HLV := Lib.hid hlv
      have c0 := HA2.out.cList
      rw [hlv] at c0
      have hq0 : q0 = i0 := hi0
      clear hi0
      subst hq0
      have HLE : Hid (e0.level = levelOf S (i0 : Int)) := by show e0.level = levelOf S (i0 : Int); unfold levelOf; rw [Int.toNat_natCast, he0]
      have c5 : wr.cell? ⟨b, off + i0 * 8 + 5, none⟩ = some (.int .i64 e0.level) := hc i0 e0 5 _ he0 rfl
      rw [HLE.out] at c5
      have b0 := HB2.out.cellS (i := 0) rfl
      have b1 := HB2.out.cellS (i := 1) rfl
      have b2 := HB2.out.cellS (i := 2) rfl
      have b3 := HB2.out.cellS (i := 3) rfl
      have hil : (i0 : Int) < (S.ents.length : Int) := by omega
      have HC := Lib.hid hc
      clear hlv hc hfr hc1 hil0 he0
      go_wp2_with fail
      go_region
      go_wp2_with fail
      clear c0 c5 b0
      have HA3 := Lib.hid HA2.out.drew
      have HS3 := Lib.hid HS2.out.drew
      have HBD : Blk wr.drew w.heap.size 37 #[.int .i64 (i0 : Int), .int .i64 q1, .int .i64 q2, .int .i64 q3] := HB2.out
      generalize World.drew _ = w3 at HA3 HS3 HBD ⊢
      have HB3 : Hid (Blk w3 w.heap.size 37 #[.int .i64 (i0 : Int), .int .i64 q1, .int .i64 q2, .int .i64 q3]) := HBD
      clear HBD
      go_loopw [38] (fun iv wx => ∃ i : Nat, iv = .int .i64 i ∧ i ≤ 4 ∧ (∀ j, j < i → levelOf S (qAt (i0 : Int) q1 q2 q3 j) = levelOf S (i0 : Int) ∧ levelOf S (i0 : Int) < 44) ∧ wx = w3) (fun iv _ => 4 - (intOf iv).toNat)
      case atStart => exact ⟨0, rfl, Nat.zero_le _, fun j hj => absurd hj (Nat.not_lt_zero _), rfl⟩
      case round =>
        obtain ⟨i, rfl, hi, hlo, rfl⟩ := hrel
        have HLO := Lib.hid hlo
        clear hlo
        by_cases hi4 : i < 4
        · have hq := fun w => idx4 (i0 : Int) q1 q2 q3 i hi4 w
          obtain ⟨i1, e1, hi1, hil1, he1⟩ := owns_range HI.out.len (HO.out i hi4)
          obtain ⟨b, off, cap, hlv, hc1, hc2, hc, hfr⟩ := HA3.out.ents (by have := HI.out.len; omega)
          have c0 := HA3.out.cList
          rw [hlv] at c0
          have HLE1 : Hid (levelOf S (qAt (i0 : Int) q1 q2 q3 i) = e1.level) := by show levelOf S (qAt (i0 : Int) q1 q2 q3 i) = e1.level; unfold levelOf; rw [hi1, Int.toNat_natCast, he1]
          have c5 : wr.cell? ⟨b, off + i1 * 8 + 5, none⟩ = some (.int .i64 e1.level) := hc i1 e1 5 _ he1 rfl
          have hil' : (i1 : Int) < (S.ents.length : Int) := by omega
          have HI4 := Lib.hid hi4
          have hlt : (i : Int) < 4 := by omega
          have hwi := wrap_nat' i (by unfold maxLen; omega)
          rw [hi1] at hq
          clear hi4 hi hlv hc hfr hc1 hi1 hil1 he1
          by_cases hd : e1.level = levelOf S (i0 : Int)
          · by_cases h44 : levelOf S (i0 : Int) < 44
            · have hb1 : (e1.level == levelOf S (i0 : Int)) = true := by rw [beq_iff_eq]; exact hd
              have HD := Lib.hid hd
              rw [hd] at c5
              clear hd hb1
              go_wp2_with fail
              go_roundw
              case rel =>
                refine ⟨i + 1, by go_num, HI4.out, fun j hj => ?_, trivial⟩
                rcases Nat.lt_succ_iff_lt_or_eq.1 hj with h | h
                · exact HLO.out j h
                · rw [h]; exact ⟨HLE1.out.trans HD.out, h44⟩
              case measure => simp [intOf]; have := HI4.out; omega
            · have h44' : 44 ≤ levelOf S (i0 : Int) := by omega
              rw [hd] at c5
              clear hd h44
              go_wp2_with fail
              go_returns
              exact ⟨0, 8, S, R, rfl, .level i HO.out HI4.out (.inr h44'), HA3.out, HS3.out⟩
          · have hd2 : (e1.level == levelOf S (i0 : Int)) = false := by rw [beq_eq_false_iff_ne]; exact hd
            go_wp2_with fail
            go_returns
            exact ⟨0, 8, S, R, rfl, .level i HO.out HI4.out (.inl (by rw [HLE1.out]; exact hd)), HA3.out, HS3.out⟩
        · have hi5 : i = 4 := by omega
          subst hi5
          have HK : Hid (KeyA.ok ⟨0, i0, q1, q2, q3⟩) := ⟨⟨by show (-9223372036854775808 : Int) ≤ 0; decide, by show (0 : Int) ≤ 9223372036854775807; decide⟩, own_i64 HI.out (HO.out 0 (by decide)), own_i64 HI.out (HO.out 1 (by decide)), own_i64 HI.out (HO.out 2 (by decide)), own_i64 HI.out (HO.out 3 (by decide))⟩
          have HLV : Hid (0 ≤ levelOf S (i0 : Int) + 1 ∧ levelOf S (i0 : Int) + 1 ≤ 44) := ⟨by have := (level_pos HI.out (i0 : Int)).1; omega, by have := (HLO.out 0 (by decide)).2; omega⟩
          have hwl : IntKind.i64.wrap (levelOf S (i0 : Int) + 1) = levelOf S (i0 : Int) + 1 := by have := HLV.out; rw [IntKind.wrap_i64]; omega
          have b0 := HB3.out.cellS (i := 0) rfl
          have b1 := HB3.out.cellS (i := 1) rfl
          have b2 := HB3.out.cellS (i := 2) rfl
          have b3 := HB3.out.cellS (i := 3) rfl
          go_wp2_with fail
          have hg := give_any wr p R S HA3.out HI.out HL.out t ht HLN.out ⟨0, i0, q1, q2, q3⟩ HK.out (levelOf S (i0 : Int) + 1) 0 HLV.out
          (with_reducible refine hg.mono ?_)
          rintro e w4 ⟨r, x, S', R', rfl, hgr, hA4, hs4⟩
          have HGR := Lib.hid hgr
          have HA4 := Lib.hid hA4
          have HS4 := Lib.hid (HS3.out.trans hs4)
          clear hg hgr hA4 hs4
          go_wp2_with fail
          go_returns
          exact ⟨r, x, S', R', rfl, .gives r x S' HO.out (fun j hj => (HLO.out j hj).1) (HLO.out 0 (by decide)).2 HGR.out, HA4.out, HS4.out⟩
end Go.Proofs.Ytfoipadgicjcaaa
