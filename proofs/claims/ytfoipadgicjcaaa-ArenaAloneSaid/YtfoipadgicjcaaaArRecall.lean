/- arena: Recall. -/
import Derived.Test.YtfoipadgicjcaaaArNote
namespace Go.Proofs.Ytfoipadgicjcaaa
open Go.RowKit

/-- What Recall tells: whether a note is one's own. -/
def RecallPost (w : World) (p : Nat) (R : ArR) (S : ArS) (t : Nat) (s r j : Int) (e : Ending) (w' : World) : Prop :=
  ∃ (v : Int) (is : Bool), e = .returned (.tuple #[.int .i64 v, .bool is]) ∧ (is = true ↔ ∃ i : Nat, S.idx (noteK s r j) = some (i : Int) ∧ ownsB S t i 1 = true) ∧ ArM w' p R S ∧ Step p R R w w'

set_option maxRecDepth 100000 in
set_option maxHeartbeats 3200000 in
theorem recall_any (w : World) (p : Nat) (R : ArR) (S : ArS) (h : ArM w p R S) (hI : Inv S) (t : Nat) (ht : t < 64) (s r j : Int) (hs : i64r s) (hr : i64r r) (hj : i64r j) :
    Calls Try.prog 50 #[.pointer (some ⟨p, 0, none⟩), .int .i64 t, .int .i64 s, .int .i64 r, .int .i64 j] w (RecallPost w p R S t s r j) := by
  have H := Lib.hid h
  have HI := Lib.hid hI
  have HK := Lib.hid (noteK_ok hs hr hj)
  have k4 : (t : Int) < 64 := by omega
  clear h hI hs hr hj
  go_enter Try.func50, Try.ntmps50
  go_wp2_with fail
  (with_reducible refine (tenant_any _ t).mono ?_)
  rintro e wq ⟨rfl, rfl⟩
  rw [decide_eq_true (show 0 ≤ (t : Int) ∧ (t : Int) < 64 by omega)]
  have c2 := H.out.cIdx
  obtain ⟨x, hlk, hlv⟩ := H.out.idx.look HK.out
  have HV := Lib.hid hlv
  unfold KeyA.val noteK at hlk
  clear hlv
  generalize hox : S.idx ⟨1, s, r, j, 0⟩ = ox at *
  have HOX : Hid (S.idx (noteK s r j) = ox) := hox
  clear hox
  cases ox with
  | none =>
    go_wp2_with fail
    go_returns
    exact ⟨_, false, rfl, ⟨fun e => (nomatch e), fun h => by obtain ⟨i, hi, _⟩ := h; rw [HOX.out] at hi; cases hi⟩, H.out, Step.refl _ _ _⟩
  | some y =>
    have hxy : x = y := HV.out y HOX.out
    subst hxy
    obtain ⟨i, e, rfl, h2, he, hek⟩ := HI.out.idx _ _ HOX.out
    obtain ⟨b, off, cap, hlv, hc1, hc2, hc, hfr⟩ := H.out.ents (by have := HI.out.len; omega)
    have c0 := H.out.cList
    rw [hlv] at c0
    have c6 : w.cell? ⟨b, off + i * 8 + 6, none⟩ = some (.int .i64 e.value) := hc i e 6 _ he rfl
    have hil : (i : Int) < (S.ents.length : Int) := by have := (List.getElem?_eq_some_iff.1 he).1; omega
    have ho := owns_any w p R S H.out HI.out.len t ht i 1
    have hiff : ∀ b, ownsB S t i 1 = b → (b = true ↔ ∃ k : Nat, S.idx (noteK s r j) = some (k : Int) ∧ ownsB S t k 1 = true) := fun b hb => by
      subst hb
      constructor
      · intro h; exact ⟨i, HOX.out, h⟩
      · rintro ⟨k, hk, h⟩
        have := Option.some.inj (HOX.out.symm.trans hk)
        have : i = k := by omega
        subst this; exact h
    have HIF := Lib.hid hiff
    generalize hob : ownsB S t i 1 = ob at *
    have HOB := Lib.hid (HIF.out ob rfl)
    have HO := Lib.hid ho
    clear hob ho hiff hlv hc hfr hc1 h2 hek he
    generalize hL : S.ents.length = n at *
    clear hL
    go_wp2_with fail
    (with_reducible refine HO.out.mono ?_)
    rintro e wq ⟨rfl, rfl⟩
    cases ob
    · go_wp2_with fail
      go_returns
      exact ⟨_, false, rfl, by simpa using HOB.out, H.out, Step.refl _ _ _⟩
    · go_wp2_with fail
      go_returns
      exact ⟨_, true, rfl, by simpa using HOB.out, H.out, Step.refl _ _ _⟩
end Go.Proofs.Ytfoipadgicjcaaa
