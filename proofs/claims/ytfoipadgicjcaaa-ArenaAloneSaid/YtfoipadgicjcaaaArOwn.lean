/- The arena's functions that read alone: owns, Level, Count, Live. -/
import Derived.Test.YtfoipadgicjcaaaArM
namespace Go.Proofs.Ytfoipadgicjcaaa
open Go.RowKit

def entAt (S : ArS) (id : Int) : Option EntD := if 2 ≤ id then S.ents[id.toNat]? else none
def ownsB (S : ArS) (t : Nat) (id kind : Int) : Bool := (kind == 0 && (id == 0 || id == 1)) || (match entAt S id with | some e => e.key.kind == kind && e.mask.testBit t | none => false)

set_option maxRecDepth 100000 in
set_option maxHeartbeats 3200000 in
theorem owns_any (w : World) (p : Nat) (R : ArR) (S : ArS) (h : ArM w p R S) (hlen : 2 ≤ S.ents.length) (t : Nat) (ht : t < 64) (id kind : Int) :
    Calls Try.prog 43 #[.pointer (some ⟨p, 0, none⟩), .int .i64 t, .int .i64 id, .int .i64 kind] w fun e w' => e = .returned (.bool (ownsB S t id kind)) ∧ w = w' := by
  obtain ⟨b, off, cap, hlv, hc1, hc2, hc, _⟩ := h.ents (by omega)
  have c0 := h.cList
  rw [hlv] at c0
  have hmk := h.masks
  have HMK := Lib.hid hmk
  have HC := Lib.hid hc
  have k4 : (t : Int) < 64 := by omega
  clear h hc hmk hlv
  generalize hL : S.ents.length = n at *
  have HL := Lib.hid hL
  clear hL
  go_enter Try.func43, Try.ntmps43
  by_cases h0 : kind = 0 ∧ (id = 0 ∨ id = 1)
  · obtain ⟨rfl, hid⟩ := h0
    have HR : Hid (ownsB S t id 0 = true) := by show ownsB S t id 0 = true; rcases hid with rfl | rfl <;> simp [ownsB]
    rcases hid with rfl | rfl
    · go_wp2_with fail
      go_ret
      exact ⟨by rw [HR.out]; rfl, rfl⟩
    · go_wp2_with fail
      go_ret
      exact ⟨by rw [HR.out]; rfl, rfl⟩
  · have hR : ownsB S t id kind = (match entAt S id with | some e => e.key.kind == kind && e.mask.testBit t | none => false) := by
      unfold ownsB
      have : (kind == 0 && (id == 0 || id == 1)) = false := by
        rw [Bool.eq_false_iff]; intro e; simp at e; exact h0 e
      rw [this, Bool.false_or]
    have HR := Lib.hid hR
    have hk : (kind = 0 ∧ ¬ id = 0 ∧ ¬ id = 1) ∨ ¬ kind = 0 := by omega
    clear h0 hR
    by_cases h2 : 2 ≤ id
    · by_cases h3 : id < n
      · obtain ⟨i, rfl⟩ : ∃ i : Nat, id = i := ⟨id.toNat, by omega⟩
        obtain ⟨e, he⟩ : ∃ e, S.ents[i]? = some e := ⟨S.ents[i]'(by have := HL.out; omega), List.getElem?_eq_getElem _⟩
        have HA : Hid (ownsB S t i kind = (e.key.kind == kind && e.mask.testBit t)) := by
          show _ = _
          rw [HR.out]; unfold entAt; rw [if_pos h2, Int.toNat_natCast, he]
        have c1 : w.cell? ⟨b, off + i * 8, none⟩ = some (.int .i64 e.key.kind) := HC.out i e 0 _ he rfl
        have c2 : w.cell? ⟨b, off + i * 8 + 7, none⟩ = some (.int .u64 (e.mask : Int)) := HC.out i e 7 _ he rfl
        have hbit := bit_test e.mask t (HMK.out e (List.mem_of_getElem? he))
        clear he
        rcases hk with ⟨rfl, k0, k1⟩ | k0
        · have e0 := beq_eq_false_iff_ne.2 k0
          have e1 := beq_eq_false_iff_ne.2 k1
          by_cases hke : e.key.kind = 0
          · go_wp2_with fail
            go_ret
            exact ⟨by rw [HA.out, hke]; simp [hbit], rfl⟩
          · go_wp2_with fail
            go_ret
            exact ⟨by rw [HA.out]; simp [hke], rfl⟩
        · by_cases hke : e.key.kind = kind
          · go_wp2_with fail
            go_ret
            exact ⟨by rw [HA.out, hke]; simp [hbit], rfl⟩
          · go_wp2_with fail
            go_ret
            exact ⟨by rw [HA.out]; simp [hke], rfl⟩
      · have HA : Hid (ownsB S t id kind = false) := by
          show _ = _
          rw [HR.out]; unfold entAt; rw [if_pos h2, List.getElem?_eq_none (by have := HL.out; omega)]
        rcases hk with ⟨rfl, k0, k1⟩ | k0
        · have e0 := beq_eq_false_iff_ne.2 k0
          have e1 := beq_eq_false_iff_ne.2 k1
          go_wp2_with fail
          go_ret
          exact ⟨by rw [HA.out]; rfl, rfl⟩
        · go_wp2_with fail
          go_ret
          exact ⟨by rw [HA.out]; rfl, rfl⟩
    · have HA : Hid (ownsB S t id kind = false) := by
        show _ = _
        rw [HR.out]; unfold entAt; rw [if_neg h2]
      rcases hk with ⟨rfl, k0, k1⟩ | k0
      · have e0 := beq_eq_false_iff_ne.2 k0
        have e1 := beq_eq_false_iff_ne.2 k1
        go_wp2_with fail
        go_ret
        exact ⟨by rw [HA.out]; rfl, rfl⟩
      · go_wp2_with fail
        go_ret
        exact ⟨by rw [HA.out]; rfl, rfl⟩

set_option maxRecDepth 100000 in
theorem count_any (w : World) (p : Nat) (R : ArR) (S : ArS) (h : ArM w p R S) (t : Nat) (ht : t < 64) :
    Calls Try.prog 24 #[.pointer (some ⟨p, 0, none⟩), .int .i64 t] w fun e w' => e = .returned (.int .i64 (S.count t)) ∧ w = w' := by
  have c0 := h.cCount ht
  have k4 : (t : Int) < 64 := by omega
  clear h
  go_enter Try.func24, Try.ntmps24
  go_wp2_with fail
  (with_reducible refine (tenant_any w t).mono ?_)
  rintro e wq ⟨rfl, rfl⟩
  rw [decide_eq_true (show 0 ≤ (t : Int) ∧ (t : Int) < 64 by omega)]
  go_wp2_with fail
  go_ret
  exact ⟨rfl, rfl⟩
set_option maxRecDepth 100000 in
theorem live_any (w : World) (p : Nat) (R : ArR) (S : ArS) (h : ArM w p R S) :
    Calls Try.prog 25 #[.pointer (some ⟨p, 0, none⟩)] w fun e w' => e = .returned (.int .i64 S.live) ∧ w = w' := by
  have c0 := h.cLive
  clear h
  go_enter Try.func25, Try.ntmps25
  go_wp2_with fail
  go_ret
  exact ⟨rfl, rfl⟩
end Go.Proofs.Ytfoipadgicjcaaa
