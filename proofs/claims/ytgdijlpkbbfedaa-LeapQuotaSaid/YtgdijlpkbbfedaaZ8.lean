/- arena: Note, Recall. · arena: Recall. · leap: what is noted and recalled; code; middle; what a result asks of an arena. · leap: large, where result is known one level below. -/
import Derived.Deep.CutBlock
import Derived.Deep.DeepCutAuto
import Derived.Test.YtgdijlpkbbfedaaZ3
import Derived.Test.YtgdijlpkbbfedaaZ7

namespace Go.Proofs.Ytgdijlpkbbfedaa
open Go.RowKit

def noteK (s r j : Int) : KeyA := ⟨1, s, r, j, 0⟩
theorem noteK_ok {s r j : Int} (hs : i64r s) (hr : i64r r) (hj : i64r j) : (noteK s r j).ok := ⟨⟨by show (-9223372036854775808 : Int) ≤ 1; decide, by show (1 : Int) ≤ 9223372036854775807; decide⟩, hs, hr, hj, ⟨by show (-9223372036854775808 : Int) ≤ 0; decide, by show (0 : Int) ≤ 9223372036854775807; decide⟩⟩
/-- What Note does, and what it tells. -/
inductive NoteR (S : ArS) (t : Nat) (s r j v : Int) : Int → ArS → Prop
  | none : ownsB S t s 0 = false ∨ ownsB S t v 0 = false → NoteR S t s r j v 6 S
  | twice (i : Nat) (e : EntD) : ownsB S t s 0 = true → ownsB S t v 0 = true → S.idx (noteK s r j) = some (i : Int) → S.ents[i]? = some e → e.value ≠ v → NoteR S t s r j v 7 S
  | gives (id x : Int) (S' : ArS) : ownsB S t s 0 = true → ownsB S t v 0 = true → (∀ (i : Nat) e, S.idx (noteK s r j) = some (i : Int) → S.ents[i]? = some e → e.value = v) → GiveR S t (noteK s r j) 0 v id x S' → NoteR S t s r j v x S'
def NotePost (w : World) (p : Nat) (R : ArR) (S : ArS) (t : Nat) (s r j v : Int) (e : Ending) (w' : World) : Prop :=
  ∃ (x : Int) (S' : ArS) (R' : ArR), e = .returned (.int .i64 x) ∧ NoteR S t s r j v x S' ∧ ArM w' p R' S' ∧ Step p R R' w w'

set_option maxRecDepth 100000 in
set_option maxHeartbeats 3200000 in
theorem note_any (w : World) (p : Nat) (R : ArR) (S : ArS) (h : ArM w p R S) (hI : Inv S) (hl : S.live = S.size) (t : Nat) (ht : t < 64) (hal : (S.added t).length ≤ 1000000) (s r j v : Int) (hr : i64r r) (hj : i64r j) :
    Calls Try.prog 62 #[.pointer (some ⟨p, 0, none⟩), .int .i64 t, .int .i64 s, .int .i64 r, .int .i64 j, .int .i64 v] w (NotePost w p R S t s r j v) := by
  have H := Lib.hid h
  have HI := Lib.hid hI
  have HL := Lib.hid hl
  have HLN := Lib.hid hal
  have HR := Lib.hid hr
  have HJ := Lib.hid hj
  have k4 : (t : Int) < 64 := by omega
  have HO1 := Lib.hid (owns_any w p R S h hI.len t ht s 0)
  have HO2 := Lib.hid (owns_any w p R S h hI.len t ht v 0)
  clear h hI hl hal hr hj
  cases h1 : ownsB S t s 0
  · rw [h1] at HO1
    have HN := Lib.hid h1
    clear h1
    go_enter Try.func62, Try.ntmps62
    go_wp2_with fail
    (with_reducible refine (tenant_any _ t).mono ?_)
    rintro e wq ⟨rfl, rfl⟩
    rw [decide_eq_true (show 0 ≤ (t : Int) ∧ (t : Int) < 64 by omega)]
    go_wp2_with fail
    (with_reducible refine HO1.out.mono ?_)
    rintro e wq ⟨rfl, rfl⟩
    go_wp2_with fail
    go_returns
    exact ⟨6, S, R, rfl, .none (.inl HN.out), H.out, Step.refl _ _ _⟩
  · rw [h1] at HO1
    have HN1 := Lib.hid h1
    clear h1
    cases h2 : ownsB S t v 0
    · rw [h2] at HO2
      have HN := Lib.hid h2
      clear h2
      go_enter Try.func62, Try.ntmps62
      go_wp2_with fail
      (with_reducible refine (tenant_any _ t).mono ?_)
      rintro e wq ⟨rfl, rfl⟩
      rw [decide_eq_true (show 0 ≤ (t : Int) ∧ (t : Int) < 64 by omega)]
      go_wp2_with fail
      (with_reducible refine HO1.out.mono ?_)
      rintro e wq ⟨rfl, rfl⟩
      go_wp2_with fail
      (with_reducible refine HO2.out.mono ?_)
      rintro e wq ⟨rfl, rfl⟩
      go_wp2_with fail
      go_returns
      exact ⟨6, S, R, rfl, .none (.inr HN.out), H.out, Step.refl _ _ _⟩
    · rw [h2] at HO2
      have HN2 := Lib.hid h2
      clear h2
      have HK := Lib.hid (noteK_ok (own_i64 HI.out HN1.out) HR.out HJ.out)
      go_enter Try.func62, Try.ntmps62
      go_wp2_with fail
      (with_reducible refine (tenant_any _ t).mono ?_)
      rintro e wq ⟨rfl, rfl⟩
      rw [decide_eq_true (show 0 ≤ (t : Int) ∧ (t : Int) < 64 by omega)]
      go_wp2_with fail
      (with_reducible refine HO1.out.mono ?_)
      rintro e wq ⟨rfl, rfl⟩
      go_wp2_with fail
      (with_reducible refine HO2.out.mono ?_)
      rintro e wq ⟨rfl, rfl⟩
      go_wp2_with fail
      generalize hw2 : World.alloc _ _ = w2
      have HA2 : Hid (ArM w2 p R S) := by subst hw2; exact H.out.alloc _
      have HS2 : Hid (Step p R R w w2) := by subst hw2; exact (Step.refl p R w).alloc _
      have HB2 : Hid (Blk w2 w.heap.size 80 #[.int .i64 1, .int .i64 s, .int .i64 r, .int .i64 j, .int .i64 0]) := by subst hw2; exact Blk.new w _ _
      have b0 := HB2.out.cellS (i := 0) rfl
      have b1 := HB2.out.cellS (i := 1) rfl
      have b2 := HB2.out.cellS (i := 2) rfl
      have b3 := HB2.out.cellS (i := 3) rfl
      have b4 := HB2.out.cellS (i := 4) rfl
      have c2 := HA2.out.cIdx
      obtain ⟨x, hlk, hlv⟩ := HA2.out.drew.idx.look HK.out
      have HV := Lib.hid hlv
      unfold KeyA.val noteK at hlk
      clear hw2 hlv
      generalize hox : S.idx ⟨1, s, r, j, 0⟩ = ox at *
      have HOX : Hid (S.idx (noteK s r j) = ox) := hox
      clear hox
      go_region
      clear hlk b0 b1 b2 b3 b4 c2
      have HA3 := Lib.hid HA2.out.drew
      have HS3 := Lib.hid HS2.out.drew
      have HB3 : Hid (Blk w2.drew w.heap.size 80 #[.int .i64 1, .int .i64 s, .int .i64 r, .int .i64 j, .int .i64 0]) := HB2.out.drew
      generalize World.drew _ = w3 at HA3 HS3 HB3 ⊢
      cases ox with
      | none =>
        have b0 := HB3.out.cellS (i := 0) rfl
        have b1 := HB3.out.cellS (i := 1) rfl
        have b2 := HB3.out.cellS (i := 2) rfl
        have b3 := HB3.out.cellS (i := 3) rfl
        have b4 := HB3.out.cellS (i := 4) rfl
        go_wp2_with fail
        have hg := give_any _ p R S HA3.out HI.out HL.out t ht HLN.out (noteK s r j) HK.out 0 v ⟨Int.le_refl _, by decide⟩
        unfold noteK at hg
        (with_reducible refine hg.mono ?_)
        rintro e w4 ⟨id, x, S', R', rfl, hgr, hA4, hs4⟩
        have HGR := Lib.hid hgr
        have HA4 := Lib.hid hA4
        have HS4 := Lib.hid (HS3.out.trans hs4)
        clear hg hgr hA4 hs4
        go_wp2_with fail
        go_returns
        exact ⟨x, S', R', rfl, .gives id x S' HN1.out HN2.out (fun i e h => by rw [HOX.out] at h; cases h) HGR.out, HA4.out, HS4.out⟩
      | some y =>
        have hxy : x = y := HV.out y HOX.out
        subst hxy
        obtain ⟨i, e, rfl, h2, he, hek⟩ := HI.out.idx _ _ HOX.out
        obtain ⟨b, off, cap, hlv, hc1, hc2, hc, hfr⟩ := HA3.out.ents (by have := HI.out.len; omega)
        have c0 := HA3.out.cList
        rw [hlv] at c0
        have c6 : w3.cell? ⟨b, off + i * 8 + 6, none⟩ = some (.int .i64 e.value) := hc i e 6 _ he rfl
        have hil : (i : Int) < (S.ents.length : Int) := by have := (List.getElem?_eq_some_iff.1 he).1; omega
        have HE := Lib.hid he
        clear hlv hc hfr hc1 h2 hek he
        by_cases hv : e.value = v
        · have hv2 : (e.value == v) = true := by rw [beq_iff_eq]; exact hv
          have HVV := Lib.hid hv
          rw [hv] at c6
          clear hv hv2
          have b0 := HB3.out.cellS (i := 0) rfl
          have b1 := HB3.out.cellS (i := 1) rfl
          have b2 := HB3.out.cellS (i := 2) rfl
          have b3 := HB3.out.cellS (i := 3) rfl
          have b4 := HB3.out.cellS (i := 4) rfl
          go_wp2_with fail
          have hg := give_any _ p R S HA3.out HI.out HL.out t ht HLN.out (noteK s r j) HK.out 0 v ⟨Int.le_refl _, by decide⟩
          unfold noteK at hg
          (with_reducible refine hg.mono ?_)
          rintro e w4 ⟨id, x, S', R', rfl, hgr, hA4, hs4⟩
          have HGR := Lib.hid hgr
          have HA4 := Lib.hid hA4
          have HS4 := Lib.hid (HS3.out.trans hs4)
          clear hg hgr hA4 hs4
          go_wp2_with fail
          go_returns
          exact ⟨x, S', R', rfl, .gives id x S' HN1.out HN2.out (fun i' e' h he' => by
            have h3 := Option.some.inj (HOX.out.symm.trans h)
            have h4 : i' = i := by omega
            subst h4
            rw [HE.out] at he'; cases he'; exact HVV.out) HGR.out, HA4.out, HS4.out⟩
        · have hv2 : (e.value == v) = false := by rw [beq_eq_false_iff_ne]; exact hv
          go_wp2_with fail
          go_returns
          exact ⟨7, S, R, rfl, .twice i e HN1.out HN2.out HOX.out HE.out hv, HA3.out, HS3.out⟩
end Go.Proofs.Ytgdijlpkbbfedaa

namespace Go.Proofs.Ytgdijlpkbbfedaa
open Go.RowKit

/-- What Recall tells: whether a note is one's own. -/
def RecallPost (w : World) (p : Nat) (R : ArR) (S : ArS) (t : Nat) (s r j : Int) (e : Ending) (w' : World) : Prop :=
  ∃ (v : Int) (is : Bool), e = .returned (.tuple #[.int .i64 v, .bool is]) ∧ (is = true ↔ ∃ i : Nat, S.idx (noteK s r j) = some (i : Int) ∧ ownsB S t i 1 = true) ∧ (is = true → ∃ (i : Nat) (e : EntD), S.idx (noteK s r j) = some (i : Int) ∧ S.ents[i]? = some e ∧ e.value = v) ∧ ArM w' p R S ∧ Step p R R w w'

set_option maxRecDepth 100000 in
set_option maxHeartbeats 3200000 in
theorem recall_any (w : World) (p : Nat) (R : ArR) (S : ArS) (h : ArM w p R S) (hI : Inv S) (t : Nat) (ht : t < 64) (s r j : Int) (hs : i64r s) (hr : i64r r) (hj : i64r j) :
    Calls Try.prog 56 #[.pointer (some ⟨p, 0, none⟩), .int .i64 t, .int .i64 s, .int .i64 r, .int .i64 j] w (RecallPost w p R S t s r j) := by
  have H := Lib.hid h
  have HI := Lib.hid hI
  have HK := Lib.hid (noteK_ok hs hr hj)
  have k4 : (t : Int) < 64 := by omega
  clear h hI hs hr hj
  go_enter Try.func56, Try.ntmps56
  go_wp2_with fail
  (with_reducible refine (tenant_any _ t).mono ?_)
  rintro e wq ⟨rfl, rfl⟩
  rw [decide_eq_true (show 0 ≤ (t : Int) ∧ (t : Int) < 64 by omega)]
  have c2 := H.out.cIdx
  obtain ⟨x, hlk, hlv⟩ := H.out.idx.look HK.out
  have HV := Lib.hid hlv
  unfold KeyA.val noteK at hlk
  clear hlv
  generalize hox : S.idx ⟨1, s, r, j, 0⟩ = ox at *
  have HOX : Hid (S.idx (noteK s r j) = ox) := hox
  clear hox
  cases ox with
  | none =>
    go_wp2_with fail
    go_returns
    exact ⟨_, false, rfl, ⟨fun e => (nomatch e), fun h => by obtain ⟨i, hi, _⟩ := h; rw [HOX.out] at hi; cases hi⟩, fun e => (nomatch e), H.out, Step.refl _ _ _⟩
  | some y =>
    have hxy : x = y := HV.out y HOX.out
    subst hxy
    obtain ⟨i, e, rfl, h2, he, hek⟩ := HI.out.idx _ _ HOX.out
    obtain ⟨b, off, cap, hlv, hc1, hc2, hc, hfr⟩ := H.out.ents (by have := HI.out.len; omega)
    have c0 := H.out.cList
    rw [hlv] at c0
    have c6 : w.cell? ⟨b, off + i * 8 + 6, none⟩ = some (.int .i64 e.value) := hc i e 6 _ he rfl
    have hil : (i : Int) < (S.ents.length : Int) := by have := (List.getElem?_eq_some_iff.1 he).1; omega
    have ho := owns_any w p R S H.out HI.out.len t ht i 1
    have hiff : ∀ b, ownsB S t i 1 = b → (b = true ↔ ∃ k : Nat, S.idx (noteK s r j) = some (k : Int) ∧ ownsB S t k 1 = true) := fun b hb => by
      subst hb
      constructor
      · intro h; exact ⟨i, HOX.out, h⟩
      · rintro ⟨k, hk, h⟩
        have := Option.some.inj (HOX.out.symm.trans hk)
        have : i = k := by omega
        subst this; exact h
    have HIF := Lib.hid hiff
    obtain ⟨e0, he0⟩ : ∃ e0, e0 = e := ⟨_, rfl⟩
    have HE : Hid (S.ents[i]? = some e0) := by rw [he0]; exact he
    rw [← he0] at c6
    clear he0
    generalize hob : ownsB S t i 1 = ob at *
    have HOB := Lib.hid (HIF.out ob rfl)
    have HO := Lib.hid ho
    clear hob ho hiff hlv hc hfr hc1 h2 hek he
    generalize hL : S.ents.length = n at *
    clear hL
    go_wp2_with fail
    (with_reducible refine HO.out.mono ?_)
    rintro e wq ⟨rfl, rfl⟩
    cases ob
    · go_wp2_with fail
      go_returns
      exact ⟨_, false, rfl, by simpa using HOB.out, fun e => (nomatch e), H.out, Step.refl _ _ _⟩
    · go_wp2_with fail
      go_returns
      exact ⟨_, true, rfl, by simpa using HOB.out, fun _ => ⟨i, e0, HOX.out, HE.out, rfl⟩, H.out, Step.refl _ _ _⟩
end Go.Proofs.Ytgdijlpkbbfedaa

namespace Go.Proofs.Ytgdijlpkbbfedaa
open Go.RowKit

def codeR (b l : Int) : Int := b * 512 + l
theorem noteV_code {b l : Int} (h : goodR b l) {n : Nat} {T : Tree} (hT : Pf (n + 2) T) (j : Int) : noteV T (codeR b l) j = resT b l n T j := by
  obtain ⟨⟨b0, b1⟩, ⟨l0, l1⟩, _⟩ := h
  unfold noteV codeR
  rw [hT.lvl, show (b * 512 + l) / 512 = b by omega, show (b * 512 + l) % 512 = l by omega, show ((n + 2 : Nat) : Int).toNat - 2 = n by omega]
theorem or_code (b l : Nat) (hl : l < 512) : b * 512 ||| l = b * 512 + l := by
  have := Nat.shiftLeft_add_eq_or_of_lt (i := 9) (b := l) (by omega) b
  rw [Nat.shiftLeft_eq] at this
  exact this.symm
theorem i64_or_code {b l : Int} (h : goodR b l) : bits .or .i64 (b * 512) l = codeR b l := by
  obtain ⟨⟨b0, b1⟩, ⟨l0, l1⟩, _⟩ := h
  obtain ⟨B, rfl⟩ := Int.eq_ofNat_of_zero_le b0
  obtain ⟨L, rfl⟩ := Int.eq_ofNat_of_zero_le l0
  have hB : ((B : Int) * 512) = ((B * 512 : Nat) : Int) := by omega
  have e : ∀ n : Nat, n < 18446744073709551616 → (BitVec.ofInt 64 (n : Int)).toNat = n := fun n hn => by
    rw [BitVec.ofInt_natCast, BitVec.toNat_ofNat]; exact Nat.mod_eq_of_lt hn
  show IntKind.i64.wrap ((BitVec.ofInt 64 ((B : Int) * 512) ||| BitVec.ofInt 64 (L : Int)).toNat : Int) = _
  rw [hB, BitVec.toNat_or, e _ (by omega), e _ (by omega), or_code _ _ (by omega), IntKind.wrap_i64]
  unfold codeR
  omega
set_option maxRecDepth 100000 in
theorem lcode_any (w : World) (b l : Int) (h : goodR b l) :
    Calls Try.prog 57 #[.agg #[.int .i64 b, .int .i64 l]] w fun e w' => e = .returned (.int .i64 (codeR b l)) ∧ Below w.heap.size w w' := by
  have H := i64_or_code h
  obtain ⟨⟨b0, b1⟩, ⟨l0, l1⟩, _⟩ := h
  go_enter Try.func57, Try.ntmps57
  go_wp2_with fail
  go_ret
  exact ⟨rfl, (Below.refl _ _).alloc (Nat.le_refl _) _⟩

/-- The square that a tree is. -/
def sqOf : Tree → Thing
  | .node a b c d => .sq a b c d
  | _ => .note .dead 0 0
/-- What a result asks of an arena. -/
def Clo (b l : Int) : Nat → Tree → Int → List Thing → Prop
  | 0, T, j, V => Thing.note T (codeR b l) j ∈ V ∧ sqOf (smallT b l (gT T)) ∈ V
  | n + 1, T, j, V =>
    Thing.note T (codeR b l) j ∈ V ∧
    (∀ y x, y < 3 → x < 3 → sqOf (fourT (gT T) y x) ∈ V ∧ (j = ((n + 1 : Nat) : Int) → Clo b l n (fourT (gT T) y x) (j - 1) V) ∧ (j ≠ ((n + 1 : Nat) : Int) → sqOf (midT (fourT (gT T) y x)) ∈ V)) ∧
    (∀ y x, y < 2 → x < 2 → sqOf (fourT (fun y x => if j = ((n + 1 : Nat) : Int) then resT b l n (fourT (gT T) y x) (j - 1) else midT (fourT (gT T) y x)) y x) ∈ V ∧
      Clo b l n (fourT (fun y x => if j = ((n + 1 : Nat) : Int) then resT b l n (fourT (gT T) y x) (j - 1) else midT (fourT (gT T) y x)) y x) (if j = ((n + 1 : Nat) : Int) then j - 1 else j) V) ∧
    sqOf (resT b l (n + 1) T j) ∈ V
theorem Clo.note {b l : Int} : ∀ {n : Nat} {T : Tree} {j : Int} {V : List Thing}, Clo b l n T j V → Thing.note T (codeR b l) j ∈ V
  | 0, _, _, _, h => h.1
  | _ + 1, _, _, _, h => h.1
section
variable {S S' : ArS} {A : Nat → Abs} {t : Nat} {b l : Int} {n : Nat} {T : Tree} {id : Int} {j : Int}
/-- What is recalled is what the square becomes. -/
theorem Rel.recalled (h : Rel S A) (ht : t < 64) (hg : goodR b l) (hT : Pf (n + 2) T) (hh : Has S A t id T) {i : Nat} {e : EntD} (hi : S.idx (noteK id (codeR b l) j) = some (i : Int)) (he : S.ents[i]? = some e) (ho : ownsB S t i 1 = true) :
    Has S A t e.value (resT b l n T j) := by
  have hek := h.inv.idx_of he hi
  have hix : S.idx e.key = some (i : Int) := by rw [hek]; exact hi
  obtain ⟨i', e', q1, q2, q3⟩ := owns_range h.inv.len ho
  have : i = i' := by omega
  subst this
  rw [he] at q3; cases q3
  have hb : e.mask.testBit t = true := by
    have h2 := h.inv.two hi
    have e1 : entAt S (i : Int) = some e := by unfold entAt; rw [if_pos (by omega), Int.toNat_natCast]; exact he
    unfold ownsB at ho
    rw [e1] at ho
    simp only [Bool.or_eq_true, Bool.and_eq_true, beq_iff_eq] at ho
    rcases ho with ho | ho
    · omega
    · exact ho.2
  obtain ⟨x, hx⟩ := h.good i e he hix
  cases x with
  | sq a b c d =>
    exfalso
    obtain ⟨e2, p1, _, p3, _⟩ := hx.sqE
    rw [he] at p1; cases p1
    rw [hek] at p3; cases p3
  | note x r j' =>
    have hx2 := hx
    obtain ⟨e2, p1, p2, p3, p4, p5, p6, p7, p8⟩ := hx
    rw [he] at p1; cases p1
    rw [hek] at p4 p5 p7
    have e3 : x = T := Den.fn h.inv p7 hh.1
    subst e3
    have p4 : codeR b l = r := p4
    have p5 : j = j' := p5
    subst p4 p5
    rw [noteV_code hg hT] at p8
    refine ⟨p8, ?_⟩
    have hm := (h.own t ht _).2 ⟨i, e, he, hb, hx2⟩
    have hk := ((h.ok t ht).closed _ hm).2
    rw [noteV_code hg hT] at hk
    exact hk
/-- What is noted. -/
theorem Rel.noteG (h : Rel S A) (ht : t < 64) (hg : goodR b l) (hT : Pf (n + 2) T) (hh : Has S A t id T) {v x : Int} (hv : Has S A t v (resT b l n T j)) (hj : i64r j) (hn : NoteR S t id (codeR b l) j v x S') :
    ∃ A', Grew t (fun V => Thing.note T (codeR b l) j ∈ V) S A 0 S' A' x := by
  have o0 : ownsB S t id 0 = true := by rw [h.owns ht hh.1]; exact hh.2
  have o1 : ownsB S t v 0 = true := by rw [h.owns ht hv.1]; exact hv.2
  cases hn with
  | none ho =>
    rcases ho with ho | ho
    · rw [o0] at ho; cases ho
    · rw [o1] at ho; cases ho
  | twice i e _ _ hi he hne =>
    exfalso
    have hek := h.inv.idx_of he hi
    have hix : S.idx e.key = some (i : Int) := by rw [hek]; exact hi
    obtain ⟨y, hy⟩ := h.good i e he hix
    cases y with
    | sq a b c d =>
      obtain ⟨e2, p1, _, p3, _⟩ := hy.sqE
      rw [he] at p1; cases p1
      rw [hek] at p3; cases p3
    | note y r j' =>
      obtain ⟨e2, p1, p2, p3, p4, p5, p6, p7, p8⟩ := hy
      rw [he] at p1; cases p1
      rw [hek] at p4 p5 p7
      have e3 : y = T := Den.fn h.inv p7 hh.1
      subst e3
      have p4 : codeR b l = r := p4
      have p5 : j = j' := p5
      subst p4 p5
      rw [noteV_code hg hT] at p8
      exact hne (Den.inj p8 hv.1)
  | gives r x S' _ _ hval hgr =>
    have hg2 := hg
    obtain ⟨⟨b0, b1⟩, ⟨l0, l1⟩, _⟩ := hg2
    have hok : (noteK id (codeR b l) j).ok := noteK_ok (own_i64 h.inv o0) ⟨by unfold codeR; omega, by unfold codeR; omega⟩ hj
    obtain ⟨A', g1, _⟩ := h.giveG ht (x := .note T (codeR b l) j) (lv := 0) (va := v) hok ⟨Int.le_refl _, by decide⟩ ⟨rfl, rfl, rfl, rfl, hh.1⟩ (by show Den S v (noteV T (codeR b l) j); rw [noteV_code hg hT]; exact hv.1) ⟨hh.2, by rw [noteV_code hg hT]; exact hv.2⟩ hgr
    exact ⟨A', g1.grew.mono fun V hV y hy => by rw [List.mem_singleton.1 hy]; exact hV⟩
end
set_option maxRecDepth 100000 in
theorem lmid_any (w : World) (hb p : Nat) (R : ArR) (S : ArS) (A : Nat → Abs) (t : Nat) (b l bad : Int) (h : Lp w hb p R S A t b l bad)
    (G : Nat → Int) (g : Nat → Nat → Tree) (n : Nat) (hn : n < 44) (hG : bad = 0 → ∀ y x, y < 4 → x < 4 → Has S A t (G (y * 4 + x)) (g y x)) (hl : ∀ y x, Pf n (g y x)) :
    Calls Try.prog 79 #[.pointer (some ⟨hb, 0, none⟩), .agg (gC G)] w (LpPost w hb p R S A t b l bad (fourT g 1 1) (fun V => sqOf (fourT g 1 1) ∈ V)) := by
  have H := Lib.hid (h.alloc (.cells (gC G) 105))
  have HC := Lib.hid (Lc.new h 105 (gC G))
  have HS : Hid (StepN hb p R R w (w.alloc (.cells (gC G) 105))) := (StepN.refl hb p R w).alloc _
  have HJ := Lib.hid (fun w2 (h2 : Lp w2 hb p R S A t b l bad) => ljoin_any w2 hb p R S A t b l bad h2 (G 5) (G 6) (G 9) (G 10) (g 1 1) (g 1 2) (g 2 1) (g 2 2) n (fun e => ⟨hG e 1 1 (by decide) (by decide), hG e 1 2 (by decide) (by decide), hG e 2 1 (by decide) (by decide), hG e 2 2 (by decide) (by decide)⟩) ⟨(hl 1 1).lvl, (hl 1 2).lvl, (hl 2 1).lvl, (hl 2 2).lvl⟩ (by omega))
  clear h hG hl
  have c5 := HC.out.cell (gC_get G (i := 5) (by decide))
  have c6 := HC.out.cell (gC_get G (i := 6) (by decide))
  have c9 := HC.out.cell (gC_get G (i := 9) (by decide))
  have c10 := HC.out.cell (gC_get G (i := 10) (by decide))
  unfold gC at H HC HS c5 c6 c9 c10 ⊢
  go_enter Try.func79, Try.ntmps79
  go_wp2_with fail
  clear c5 c6 c9 c10 HC
  generalize World.alloc w _ = w2 at H HS ⊢
  (with_reducible refine (HJ.out _ H.out).mono ?_)
  intro e w5 hq
  unfold LpPost at hq
  obtain ⟨r, S', A', R', bad', rfl, hgw, hh, hp, hs⟩ := hq
  have HGW := Lib.hid hgw
  have HHS := Lib.hid hh
  have HPP := Lib.hid hp
  have HSS := Lib.hid (HS.out.step hs).fin
  clear hgw hh hp hs HJ
  go_wp2_with fail
  go_returns
  exact ⟨r, S', A', R', bad', rfl, HGW.out, HHS.out, HPP.out, HSS.out⟩
end Go.Proofs.Ytgdijlpkbbfedaa

namespace Go.Proofs.Ytgdijlpkbbfedaa
open Go.RowKit

def ResOk (b l : Int) (n : Nat) : Prop := ∀ (w : World) (hb p : Nat) (R : ArR) (S : ArS) (A : Nat → Abs) (t : Nat) (bad : Int), Lp w hb p R S A t b l bad → ∀ (id : Int) (T : Tree) (j : Int), Pf (n + 2) T → (bad = 0 → Has S A t id T) → 0 ≤ j → j ≤ n →
  Calls Try.prog 48 #[.pointer (some ⟨hb, 0, none⟩), .int .i64 id, .int .i64 ((n : Int) + 2), .int .i64 j] w (LpPost w hb p R S A t b l bad (resT b l n T j) (Clo b l n T j))
/-- Nine numbers. -/
def nC (N : Nat → Int) : Array Value := #[.int .i64 (N 0), .int .i64 (N 1), .int .i64 (N 2), .int .i64 (N 3), .int .i64 (N 4), .int .i64 (N 5), .int .i64 (N 6), .int .i64 (N 7), .int .i64 (N 8)]
theorem nC_get (G : Nat → Int) {i : Nat} (h : i < 9) : (nC G)[i]? = some (.int .i64 (G i)) := by
  have : i = 0 ∨ i = 1 ∨ i = 2 ∨ i = 3 ∨ i = 4 ∨ i = 5 ∨ i = 6 ∨ i = 7 ∨ i = 8 := by omega
  rcases this with rfl | rfl | rfl | rfl | rfl | rfl | rfl | rfl | rfl <;> rfl
theorem nC_set (G : Nat → Int) {i : Nat} (h : i < 9) (x : Int) : (nC G).setIfInBounds i (.int .i64 x) = nC (upd G i x) := by
  have : i = 0 ∨ i = 1 ∨ i = 2 ∨ i = 3 ∨ i = 4 ∨ i = 5 ∨ i = 6 ∨ i = 7 ∨ i = 8 := by omega
  rcases this with rfl | rfl | rfl | rfl | rfl | rfl | rfl | rfl | rfl <;> rfl
/-- The nine squares in hand. -/
def nineT (b l : Int) (n : Nat) (T : Tree) (j : Int) (y x : Nat) : Tree := if j = ((n + 1 : Nat) : Int) then resT b l n (fourT (gT T) y x) (j - 1) else midT (fourT (gT T) y x)
theorem resT_succ (b l : Int) (n : Nat) (T : Tree) (j : Int) : resT b l (n + 1) T j = fourT (fun y x => resT b l n (fourT (nineT b l n T j) y x) (if j = ((n + 1 : Nat) : Int) then j - 1 else j)) 0 0 := rfl
theorem nine_pf {b l : Int} {n : Nat} {T : Tree} (h : Pf (n + 3) T) (j : Int) (y x : Nat) : Pf (n + 1) (nineT b l n T j y x) := by
  unfold nineT; split
  · exact Pf.res (Pf.four h.g)
  · exact Pf.mid (Pf.four h.g)
structure LargeI (w : World) (hb p : Nat) (R : ArR) (S : ArS) (A : Nat → Abs) (t : Nat) (b l bad : Int) (C : List Thing → Prop) (G : Nat → Int) (U : Nat → Tree) (N : Nat → Int) (m : Nat) (R' : ArR) (S' : ArS) (A' : Nat → Abs) (bad' : Int) (wx : World) : Prop where
  lp : Lp wx hb p R' S' A' t b l bad'
  gg : Lc wx p R' hb w.heap.size 105 (gC G)
  nn : Lc wx p R' hb (w.heap.size + 1) 127 (nC N)
  st : StepN hb p R R' w wx
  gr : Grew t C S A bad S' A' bad'
  told : bad' = 0 → ∀ i, i < m → Has S' A' t (N i) (U i)
section
variable {w wx w1 : World} {hb p : Nat} {R R' R2 : ArR} {S S' S2 : ArS} {A A' A2 : Nat → Abs} {t : Nat} {b l bad bad' bad2 : Int} {C : List Thing → Prop} {G : Nat → Int} {U : Nat → Tree} {N : Nat → Int} {m : Nat}
theorem LargeI.step (h : LargeI w hb p R S A t b l bad C G U N m R' S' A' bad' wx) (hp : Lp w1 hb p R2 S2 A2 t b l bad2) (hs : StepH (fun b => b = hb) p R' R2 wx w1) (hg : Grew t C S' A' bad' S2 A2 bad2) : LargeI w hb p R S A t b l bad C G U N m R2 S2 A2 bad2 w1 :=
  ⟨hp, h.gg.step hs, h.nn.step hs, h.st.step hs, h.gr.trans hg, fun e i hi => (h.told (hg.ok e) i hi).st h.lp.ht hg.st⟩
theorem LargeI.drew (h : LargeI w hb p R S A t b l bad C G U N m R' S' A' bad' wx) : LargeI w hb p R S A t b l bad C G U N m R' S' A' bad' wx.drew :=
  ⟨h.lp.drew, h.gg.drew, h.nn.drew, h.st.drew, h.gr, h.told⟩
theorem LargeI.put (h : LargeI w hb p R S A t b l bad C G U N m R' S' A' bad' wx) (hm : m < 9) {r : Int} (hr : bad' = 0 → Has S' A' t r (U m)) : LargeI w hb p R S A t b l bad C G U (upd N m r) (m + 1) R' S' A' bad' (wx.setCell ⟨w.heap.size + 1, m, none⟩ (.int .i64 r)) := by
  refine ⟨h.lp.lset h.nn _ _, h.gg.far (by omega) _ _, ?_, h.st.lset (by omega) _ _, h.gr, fun e i hi => ?_⟩
  · rw [← nC_set N hm]; exact h.nn.set _ _
  · by_cases q : i = m
    · subst q; rw [upd_same]; exact hr e
    · rw [upd_ne _ _ q]; exact h.told e i (by omega)
theorem LargeI.has (h : LargeI w hb p R S A t b l bad C G U N m R' S' A' bad' wx) {T : Tree} (hG : bad = 0 → ∀ y x, y < 4 → x < 4 → Has S A t (G (y * 4 + x)) (gT T y x)) (e : bad' = 0) (y x : Nat) (hy : y < 4) (hx : x < 4) : Has S' A' t (G (y * 4 + x)) (gT T y x) :=
  (hG (h.gr.ok e) y x hy hx).st h.lp.ht h.gr.st
end
section
variable {w wx : World} {hb p : Nat} {R R' : ArR} {S S' : ArS} {A A' : Nat → Abs} {t : Nat} {b l bad bad' : Int} {C : List Thing → Prop} {G : Nat → Int} {U : Nat → Tree} {N : Nat → Int} {m : Nat}
/-- What a call within large gives. -/
def LargeP (w : World) (hb p : Nat) (R : ArR) (S : ArS) (A : Nat → Abs) (t : Nat) (b l bad : Int) (C : List Thing → Prop) (G : Nat → Int) (U : Nat → Tree) (N : Nat → Int) (m : Nat) (R' : ArR) (S' : ArS) (A' : Nat → Abs) (bad' : Int) (wx : World) (F : Tree) (e : Ending) (w2 : World) : Prop :=
  ∃ (r : Int) (R2 : ArR) (S2 : ArS) (A2 : Nat → Abs) (bad2 : Int), e = .returned (.int .i64 r) ∧ (bad2 = 0 → Has S2 A2 t r F) ∧ LargeI w hb p R S A t b l bad C G U N m R2 S2 A2 bad2 w2 ∧ StepH (fun b => b = hb) p R' R2 wx w2 ∧ Grew t C S' A' bad' S2 A2 bad2
theorem LargeI.post (h : LargeI w hb p R S A t b l bad C G U N m R' S' A' bad' wx) {F : Tree} {C' : List Thing → Prop} (hC : ∀ V, C V → C' V) {e : Ending} {w2 : World} (hp : LpPost wx hb p R' S' A' t b l bad' F C' e w2) : LargeP w hb p R S A t b l bad C G U N m R' S' A' bad' wx F e w2 := by
  obtain ⟨r, S2, A2, R2, bad2, rfl, hg, hh, hl, hs⟩ := hp
  exact ⟨r, R2, S2, A2, bad2, rfl, hh, h.step hl hs (hg.mono hC), hs, hg.mono hC⟩
theorem LargeI.joinC (h : LargeI w hb p R S A t b l bad C G U N m R' S' A' bad' wx) {F : Nat → Nat → Tree} {y x n : Nat} {q0 q1 q2 q3 : Int} (hn : n < 44) (hF : ∀ y x, Pf n (F y x)) (hq : bad' = 0 → Has S' A' t q0 (F y x) ∧ Has S' A' t q1 (F y (x + 1)) ∧ Has S' A' t q2 (F (y + 1) x) ∧ Has S' A' t q3 (F (y + 1) (x + 1))) (hC : ∀ V, C V → sqOf (fourT F y x) ∈ V) :
    Calls Try.prog 78 #[.pointer (some ⟨hb, 0, none⟩), .int .i64 q0, .int .i64 q1, .int .i64 q2, .int .i64 q3] wx (LargeP w hb p R S A t b l bad C G U N m R' S' A' bad' wx (fourT F y x)) :=
  (ljoin_any wx hb p R' S' A' t b l bad' h.lp q0 q1 q2 q3 (F y x) (F y (x + 1)) (F (y + 1) x) (F (y + 1) (x + 1)) n hq ⟨(hF _ _).lvl, (hF _ _).lvl, (hF _ _).lvl, (hF _ _).lvl⟩ (by omega)).mono fun _ _ hp => h.post hC hp
theorem LargeI.resC (h : LargeI w hb p R S A t b l bad C G U N m R' S' A' bad' wx) {n : Nat} (hres : ResOk b l n) {F : Tree} {r : Int} {j : Int} (hF : Pf (n + 2) F) (hq : bad' = 0 → Has S' A' t r F) (hj0 : 0 ≤ j) (hj : j ≤ n) (hC : ∀ V, C V → Clo b l n F j V) :
    Calls Try.prog 48 #[.pointer (some ⟨hb, 0, none⟩), .int .i64 r, .int .i64 ((n : Int) + 2), .int .i64 j] wx (LargeP w hb p R S A t b l bad C G U N m R' S' A' bad' wx (resT b l n F j)) :=
  (hres wx hb p R' S' A' t bad' h.lp r F j hF hq hj0 hj).mono fun _ _ hp => h.post hC hp
def GridP (w : World) (hb p : Nat) (R : ArR) (S : ArS) (A : Nat → Abs) (t : Nat) (b l bad : Int) (C : List Thing → Prop) (G : Nat → Int) (U : Nat → Tree) (N : Nat → Int) (m : Nat) (R' : ArR) (S' : ArS) (A' : Nat → Abs) (bad' : Int) (F : Tree) (e : Ending) (w2 : World) : Prop :=
  ∃ g : Nat → Int, e = .returned (.agg (gC g)) ∧ (bad' = 0 → ∀ y x, y < 4 → x < 4 → Has S' A' t (g (y * 4 + x)) (gT F y x)) ∧ LargeI w hb p R S A t b l bad C G U N m R' S' A' bad' w2
theorem LargeI.gridC (h : LargeI w hb p R S A t b l bad C G U N m R' S' A' bad' wx) {n : Nat} {F : Tree} {r : Int} (hF : Pf (n + 2) F) (hq : bad' = 0 → Has S' A' t r F) :
    Calls Try.prog 58 #[.pointer (some ⟨hb, 0, none⟩), .int .i64 r] wx (GridP w hb p R S A t b l bad C G U N m R' S' A' bad' F) :=
  (lgrid_any wx hb p R' S' A' t b l bad' h.lp r F n hF hq).mono fun _ _ hp => by
    obtain ⟨g, rfl, hg, hl, hs⟩ := hp
    exact ⟨g, rfl, hg, h.step hl hs (Grew.refl h.lp.rel t C bad')⟩
theorem LargeI.midC (h : LargeI w hb p R S A t b l bad C G U N m R' S' A' bad' wx) {n : Nat} {F : Tree} {g : Nat → Int} (hn : n < 44) (hF : Pf (n + 2) F) (hq : bad' = 0 → ∀ y x, y < 4 → x < 4 → Has S' A' t (g (y * 4 + x)) (gT F y x)) (hC : ∀ V, C V → sqOf (midT F) ∈ V) :
    Calls Try.prog 79 #[.pointer (some ⟨hb, 0, none⟩), .agg (gC g)] wx (LargeP w hb p R S A t b l bad C G U N m R' S' A' bad' wx (midT F)) :=
  (lmid_any wx hb p R' S' A' t b l bad' h.lp g (gT F) n hn hq hF.g).mono fun _ _ hp => h.post hC hp
end
theorem U_at (b l : Int) (n : Nat) (T : Tree) (j : Int) (y : Nat) {x : Nat} (hx : x < 3) : (fun i => nineT b l n T j (i / 3) (i % 3)) (3 * y + x) = nineT b l n T j y x := by
  dsimp only
  rw [show (3 * y + x) / 3 = y by omega, show (3 * y + x) % 3 = x by omega]
/-- What is in hand behind the nine squares. -/
structure LargeQ (w : World) (hb p : Nat) (R : ArR) (S : ArS) (A : Nat → Abs) (t : Nat) (b l bad : Int) (C : List Thing → Prop) (G : Nat → Int) (U V : Nat → Tree) (N : Nat → Int) (qb : Nat) (Q : Nat → Int) (k : Nat) (R' : ArR) (S' : ArS) (A' : Nat → Abs) (bad' : Int) (wx : World) : Prop where
  lg : LargeI w hb p R S A t b l bad C G U N 9 R' S' A' bad' wx
  q : Lc wx p R' hb qb 50 (QC Q)
  lo : w.heap.size + 2 ≤ qb
  done : bad' = 0 → ∀ i, i < k → Has S' A' t (Q i) (V i)
section
variable {w wx w1 : World} {hb p : Nat} {R R' R2 : ArR} {S S' S2 : ArS} {A A' A2 : Nat → Abs} {t : Nat} {b l bad bad' bad2 : Int} {C : List Thing → Prop} {G : Nat → Int} {U V : Nat → Tree} {N : Nat → Int} {m qb k : Nat} {Q : Nat → Int}
theorem LargeI.alloc (h : LargeI w hb p R S A t b l bad C G U N m R' S' A' bad' wx) (o : Obj) : LargeI w hb p R S A t b l bad C G U N m R' S' A' bad' (wx.alloc o) :=
  ⟨h.lp.alloc o, h.gg.alloc o, h.nn.alloc o, h.st.alloc o, h.gr, h.told⟩
theorem LargeI.lo (h : LargeI w hb p R S A t b l bad C G U N m R' S' A' bad' wx) : w.heap.size + 2 ≤ wx.heap.size := by have := h.nn.blk.lt; omega
theorem LargeQ.drew (h : LargeQ w hb p R S A t b l bad C G U V N qb Q k R' S' A' bad' wx) : LargeQ w hb p R S A t b l bad C G U V N qb Q k R' S' A' bad' wx.drew := ⟨h.lg.drew, h.q.drew, h.lo, h.done⟩
theorem LargeQ.step (h : LargeQ w hb p R S A t b l bad C G U V N qb Q k R' S' A' bad' wx) (hl : LargeI w hb p R S A t b l bad C G U N 9 R2 S2 A2 bad2 w1) (hs : StepH (fun b => b = hb) p R' R2 wx w1) (hg : Grew t C S' A' bad' S2 A2 bad2) : LargeQ w hb p R S A t b l bad C G U V N qb Q k R2 S2 A2 bad2 w1 :=
  ⟨hl, h.q.step hs, h.lo, fun e i hi => (h.done (hg.ok e) i hi).st h.lg.lp.ht hg.st⟩
theorem LargeQ.put (h : LargeQ w hb p R S A t b l bad C G U V N qb Q k R' S' A' bad' wx) (hk : k < 4) {r : Int} (hr : bad' = 0 → Has S' A' t r (V k)) : LargeQ w hb p R S A t b l bad C G U V N qb (upd Q k r) (k + 1) R' S' A' bad' (wx.setCell ⟨qb, k, none⟩ (.int .i64 r)) := by
  have hlo := h.lo
  refine ⟨⟨h.lg.lp.lset h.q _ _, h.lg.gg.far (by omega) _ _, h.lg.nn.far (by omega) _ _, h.lg.st.lset (by omega) _ _, h.lg.gr, h.lg.told⟩, ?_, h.lo, fun e i hi => ?_⟩
  · rw [← QC_set Q hk]; exact h.q.set _ _
  · by_cases q : i = k
    · subst q; rw [upd_same]; exact hr e
    · rw [upd_ne _ _ q]; exact h.done e i (by omega)
end
/-- What large's calls give, whatever they are for. -/
structure Serves (w : World) (hb p : Nat) (R : ArR) (S : ArS) (A : Nat → Abs) (t : Nat) (b l bad : Int) (C : List Thing → Prop) (G : Nat → Int) (U : Nat → Tree) (F F2 : Nat → Nat → Tree) (V : Nat → Tree) (E : Tree) (lv j : Int) (fl : Bool) : Prop where
  join : ∀ N m R' S' A' bad' W, LargeI w hb p R S A t b l bad C G U N m R' S' A' bad' W → ∀ y x, y < 3 → x < 3 →
    Calls Try.prog 78 #[.pointer (some ⟨hb, 0, none⟩), .int .i64 (G (y * 4 + x)), .int .i64 (G (y * 4 + (x + 1))), .int .i64 (G ((y + 1) * 4 + x)), .int .i64 (G ((y + 1) * 4 + (x + 1)))] W (LargeP w hb p R S A t b l bad C G U N m R' S' A' bad' W (F y x))
  res : fl = true → ∀ N m R' S' A' bad' W, LargeI w hb p R S A t b l bad C G U N m R' S' A' bad' W → ∀ y x, y < 3 → x < 3 → ∀ r, (bad' = 0 → Has S' A' t r (F y x)) →
    Calls Try.prog 48 #[.pointer (some ⟨hb, 0, none⟩), .int .i64 r, .int .i64 lv, .int .i64 (j - 1)] W (LargeP w hb p R S A t b l bad C G U N m R' S' A' bad' W (U (3 * y + x)))
  grid : fl = false → ∀ N m R' S' A' bad' W, LargeI w hb p R S A t b l bad C G U N m R' S' A' bad' W → ∀ y x, y < 3 → x < 3 → ∀ r, (bad' = 0 → Has S' A' t r (F y x)) →
    Calls Try.prog 58 #[.pointer (some ⟨hb, 0, none⟩), .int .i64 r] W (GridP w hb p R S A t b l bad C G U N m R' S' A' bad' (F y x))
  mid : fl = false → ∀ N m R' S' A' bad' W, LargeI w hb p R S A t b l bad C G U N m R' S' A' bad' W → ∀ y x, y < 3 → x < 3 → ∀ g : Nat → Int, (bad' = 0 → ∀ r c, r < 4 → c < 4 → Has S' A' t (g (r * 4 + c)) (gT (F y x) r c)) →
    Calls Try.prog 79 #[.pointer (some ⟨hb, 0, none⟩), .agg (gC g)] W (LargeP w hb p R S A t b l bad C G U N m R' S' A' bad' W (U (3 * y + x)))
  join2 : ∀ N R' S' A' bad' W, LargeI w hb p R S A t b l bad C G U N 9 R' S' A' bad' W → ∀ y x, y < 2 → x < 2 →
    Calls Try.prog 78 #[.pointer (some ⟨hb, 0, none⟩), .int .i64 (N (y * 3 + x)), .int .i64 (N (y * 3 + (x + 1))), .int .i64 (N ((y + 1) * 3 + x)), .int .i64 (N ((y + 1) * 3 + (x + 1)))] W (LargeP w hb p R S A t b l bad C G U N 9 R' S' A' bad' W (F2 y x))
  res2 : ∀ N R' S' A' bad' W, LargeI w hb p R S A t b l bad C G U N 9 R' S' A' bad' W → ∀ y x, y < 2 → x < 2 → ∀ r, (bad' = 0 → Has S' A' t r (F2 y x)) →
    Calls Try.prog 48 #[.pointer (some ⟨hb, 0, none⟩), .int .i64 r, .int .i64 lv, .int .i64 (if fl then j - 1 else j)] W (LargeP w hb p R S A t b l bad C G U N 9 R' S' A' bad' W (V (2 * y + x)))
  join3 : ∀ N R' S' A' bad' W, LargeI w hb p R S A t b l bad C G U N 9 R' S' A' bad' W → ∀ Q : Nat → Int, (bad' = 0 → ∀ k, k < 4 → Has S' A' t (Q k) (V k)) →
    Calls Try.prog 78 #[.pointer (some ⟨hb, 0, none⟩), .int .i64 (Q 0), .int .i64 (Q 1), .int .i64 (Q 2), .int .i64 (Q 3)] W (LargeP w hb p R S A t b l bad C G U N 9 R' S' A' bad' W E)
theorem wrap_succ (y : Nat) (h : y < 1000) : IntKind.i64.wrap ((y : Int) + 1) = ((y + 1 : Nat) : Int) := by rw [IntKind.wrap_i64]; omega
end Go.Proofs.Ytgdijlpkbbfedaa
