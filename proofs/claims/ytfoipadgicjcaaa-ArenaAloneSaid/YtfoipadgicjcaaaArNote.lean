/- arena: Note, Recall. -/
import Derived.Test.YtfoipadgicjcaaaArJoin
namespace Go.Proofs.Ytfoipadgicjcaaa
open Go.RowKit

def noteK (s r j : Int) : KeyA := ⟨1, s, r, j, 0⟩
theorem noteK_ok {s r j : Int} (hs : i64r s) (hr : i64r r) (hj : i64r j) : (noteK s r j).ok := ⟨⟨by show (-9223372036854775808 : Int) ≤ 1; decide, by show (1 : Int) ≤ 9223372036854775807; decide⟩, hs, hr, hj, ⟨by show (-9223372036854775808 : Int) ≤ 0; decide, by show (0 : Int) ≤ 9223372036854775807; decide⟩⟩
/-- What Note does, and what it tells. -/
inductive NoteR (S : ArS) (t : Nat) (s r j v : Int) : Int → ArS → Prop
  | none : ownsB S t s 0 = false ∨ ownsB S t v 0 = false → NoteR S t s r j v 6 S
  | twice (i : Nat) (e : EntD) : ownsB S t s 0 = true → ownsB S t v 0 = true → S.idx (noteK s r j) = some (i : Int) → S.ents[i]? = some e → e.value ≠ v → NoteR S t s r j v 7 S
  | gives (id x : Int) (S' : ArS) : ownsB S t s 0 = true → ownsB S t v 0 = true → (∀ (i : Nat) e, S.idx (noteK s r j) = some (i : Int) → S.ents[i]? = some e → e.value = v) → GiveR S t (noteK s r j) 0 v id x S' → NoteR S t s r j v x S'
def NotePost (w : World) (p : Nat) (R : ArR) (S : ArS) (t : Nat) (s r j v : Int) (e : Ending) (w' : World) : Prop :=
  ∃ (x : Int) (S' : ArS) (R' : ArR), e = .returned (.int .i64 x) ∧ NoteR S t s r j v x S' ∧ ArM w' p R' S' ∧ Step p R R' w w'

set_option maxRecDepth 100000 in
set_option maxHeartbeats 3200000 in
theorem note_any (w : World) (p : Nat) (R : ArR) (S : ArS) (h : ArM w p R S) (hI : Inv S) (hl : S.live = S.size) (t : Nat) (ht : t < 64) (hal : (S.added t).length ≤ 1000000) (s r j v : Int) (hr : i64r r) (hj : i64r j) :
    Calls Try.prog 20 #[.pointer (some ⟨p, 0, none⟩), .int .i64 t, .int .i64 s, .int .i64 r, .int .i64 j, .int .i64 v] w (NotePost w p R S t s r j v) := by
  have H := Lib.hid h
  have HI := Lib.hid hI
  have HL := Lib.hid hl
  have HLN := Lib.hid hal
  have HR := Lib.hid hr
  have HJ := Lib.hid hj
  have k4 : (t : Int) < 64 := by omega
  have HO1 := Lib.hid (owns_any w p R S h hI.len t ht s 0)
  have HO2 := Lib.hid (owns_any w p R S h hI.len t ht v 0)
  clear h hI hl hal hr hj
  cases h1 : ownsB S t s 0
  · rw [h1] at HO1
    have HN := Lib.hid h1
    clear h1
    go_enter Try.func20, Try.ntmps20
    go_wp2_with fail
    (with_reducible refine (tenant_any _ t).mono ?_)
    rintro e wq ⟨rfl, rfl⟩
    rw [decide_eq_true (show 0 ≤ (t : Int) ∧ (t : Int) < 64 by omega)]
    go_wp2_with fail
    (with_reducible refine HO1.out.mono ?_)
    rintro e wq ⟨rfl, rfl⟩
    go_wp2_with fail
    go_returns
    exact ⟨6, S, R, rfl, .none (.inl HN.out), H.out, Step.refl _ _ _⟩
  · rw [h1] at HO1
    have HN1 := Lib.hid h1
    clear h1
    cases h2 : ownsB S t v 0
    · rw [h2] at HO2
      have HN := Lib.hid h2
      clear h2
      go_enter Try.func20, Try.ntmps20
      go_wp2_with fail
      (with_reducible refine (tenant_any _ t).mono ?_)
      rintro e wq ⟨rfl, rfl⟩
      rw [decide_eq_true (show 0 ≤ (t : Int) ∧ (t : Int) < 64 by omega)]
      go_wp2_with fail
      (with_reducible refine HO1.out.mono ?_)
      rintro e wq ⟨rfl, rfl⟩
      go_wp2_with fail
      (with_reducible refine HO2.out.mono ?_)
      rintro e wq ⟨rfl, rfl⟩
      go_wp2_with fail
      go_returns
      exact ⟨6, S, R, rfl, .none (.inr HN.out), H.out, Step.refl _ _ _⟩
    · rw [h2] at HO2
      have HN2 := Lib.hid h2
      clear h2
      have HK := Lib.hid (noteK_ok (own_i64 HI.out HN1.out) HR.out HJ.out)
      go_enter Try.func20, Try.ntmps20
      go_wp2_with fail
      (with_reducible refine (tenant_any _ t).mono ?_)
      rintro e wq ⟨rfl, rfl⟩
      rw [decide_eq_true (show 0 ≤ (t : Int) ∧ (t : Int) < 64 by omega)]
      go_wp2_with fail
      (with_reducible refine HO1.out.mono ?_)
      rintro e wq ⟨rfl, rfl⟩
      go_wp2_with fail
      (with_reducible refine HO2.out.mono ?_)
      rintro e wq ⟨rfl, rfl⟩
      go_wp2_with fail
      generalize hw2 : World.alloc _ _ = w2
      have HA2 : Hid (ArM w2 p R S) := by subst hw2; exact H.out.alloc _
      have HS2 : Hid (Step p R R w w2) := by subst hw2; exact (Step.refl p R w).alloc _
      have HB2 : Hid (Blk w2 w.heap.size 96 #[.int .i64 1, .int .i64 s, .int .i64 r, .int .i64 j, .int .i64 0]) := by subst hw2; exact Blk.new w _ _
      have b0 := HB2.out.cellS (i := 0) rfl
      have b1 := HB2.out.cellS (i := 1) rfl
      have b2 := HB2.out.cellS (i := 2) rfl
      have b3 := HB2.out.cellS (i := 3) rfl
      have b4 := HB2.out.cellS (i := 4) rfl
      have c2 := HA2.out.cIdx
      obtain ⟨x, hlk, hlv⟩ := HA2.out.drew.idx.look HK.out
      have HV := Lib.hid hlv
      unfold KeyA.val noteK at hlk
      clear hw2 hlv
      generalize hox : S.idx ⟨1, s, r, j, 0⟩ = ox at *
      have HOX : Hid (S.idx (noteK s r j) = ox) := hox
      clear hox
      go_region
      clear hlk b0 b1 b2 b3 b4 c2
      have HA3 := Lib.hid HA2.out.drew
      have HS3 := Lib.hid HS2.out.drew
      have HB3 : Hid (Blk w2.drew w.heap.size 96 #[.int .i64 1, .int .i64 s, .int .i64 r, .int .i64 j, .int .i64 0]) := HB2.out.drew
      generalize World.drew _ = w3 at HA3 HS3 HB3 ⊢
      cases ox with
      | none =>
        have b0 := HB3.out.cellS (i := 0) rfl
        have b1 := HB3.out.cellS (i := 1) rfl
        have b2 := HB3.out.cellS (i := 2) rfl
        have b3 := HB3.out.cellS (i := 3) rfl
        have b4 := HB3.out.cellS (i := 4) rfl
        go_wp2_with fail
        have hg := give_any _ p R S HA3.out HI.out HL.out t ht HLN.out (noteK s r j) HK.out 0 v ⟨Int.le_refl _, by decide⟩
        unfold noteK at hg
        (with_reducible refine hg.mono ?_)
        rintro e w4 ⟨id, x, S', R', rfl, hgr, hA4, hs4⟩
        have HGR := Lib.hid hgr
        have HA4 := Lib.hid hA4
        have HS4 := Lib.hid (HS3.out.trans hs4)
        clear hg hgr hA4 hs4
        go_wp2_with fail
        go_returns
        exact ⟨x, S', R', rfl, .gives id x S' HN1.out HN2.out (fun i e h => by rw [HOX.out] at h; cases h) HGR.out, HA4.out, HS4.out⟩
      | some y =>
        have hxy : x = y := HV.out y HOX.out
        subst hxy
        obtain ⟨i, e, rfl, h2, he, hek⟩ := HI.out.idx _ _ HOX.out
        obtain ⟨b, off, cap, hlv, hc1, hc2, hc, hfr⟩ := HA3.out.ents (by have := HI.out.len; omega)
        have c0 := HA3.out.cList
        rw [hlv] at c0
        have c6 : w3.cell? ⟨b, off + i * 8 + 6, none⟩ = some (.int .i64 e.value) := hc i e 6 _ he rfl
        have hil : (i : Int) < (S.ents.length : Int) := by have := (List.getElem?_eq_some_iff.1 he).1; omega
        have HE := Lib.hid he
        clear hlv hc hfr hc1 h2 hek he
        by_cases hv : e.value = v
        · have hv2 : (e.value == v) = true := by rw [beq_iff_eq]; exact hv
          have HVV := Lib.hid hv
          rw [hv] at c6
          clear hv hv2
          have b0 := HB3.out.cellS (i := 0) rfl
          have b1 := HB3.out.cellS (i := 1) rfl
          have b2 := HB3.out.cellS (i := 2) rfl
          have b3 := HB3.out.cellS (i := 3) rfl
          have b4 := HB3.out.cellS (i := 4) rfl
          go_wp2_with fail
          have hg := give_any _ p R S HA3.out HI.out HL.out t ht HLN.out (noteK s r j) HK.out 0 v ⟨Int.le_refl _, by decide⟩
          unfold noteK at hg
          (with_reducible refine hg.mono ?_)
          rintro e w4 ⟨id, x, S', R', rfl, hgr, hA4, hs4⟩
          have HGR := Lib.hid hgr
          have HA4 := Lib.hid hA4
          have HS4 := Lib.hid (HS3.out.trans hs4)
          clear hg hgr hA4 hs4
          go_wp2_with fail
          go_returns
          exact ⟨x, S', R', rfl, .gives id x S' HN1.out HN2.out (fun i' e' h he' => by
            have h3 := Option.some.inj (HOX.out.symm.trans h)
            have h4 : i' = i := by omega
            subst h4
            rw [HE.out] at he'; cases he'; exact HVV.out) HGR.out, HA4.out, HS4.out⟩
        · have hv2 : (e.value == v) = false := by rw [beq_eq_false_iff_ne]; exact hv
          go_wp2_with fail
          go_returns
          exact ⟨7, S, R, rfl, .twice i e HN1.out HN2.out HOX.out HE.out hv, HA3.out, HS3.out⟩
end Go.Proofs.Ytfoipadgicjcaaa
