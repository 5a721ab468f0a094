/- An entry's mask is written; lose, Limit, Mark. -/
import Derived.Test.YtfoipadgicjcaaaArOwn
namespace Go.Proofs.Ytfoipadgicjcaaa
open Go.RowKit

theorem Sl.putAt {w : World} {t : TypeId} {b off n cap sz : Nat} {xs : List Value} (h : Sl w t sz (.slice (some ⟨b, off, none⟩) n cap) n xs) {i : Nat} (hi : i < n * sz) (u : Value) :
    Sl (w.setCell ⟨b, off + i, none⟩ u) t sz (.slice (some ⟨b, off, none⟩) n cap) n (xs.set i u) := by
  obtain ⟨h1, A, cap', e, h2, h3, h4, h5⟩ := h
  injection e with e1 _ e2
  subst e1; subst e2
  obtain ⟨cs, c1, c2, c3, c4⟩ := h5 _ rfl
  refine ⟨by rw [List.length_set]; exact h1, _, _, rfl, h2, h3, (fun h => nomatch h), fun a ha => ?_⟩
  injection ha with ha; subst ha
  refine ⟨cs.setIfInBounds (off + i) u, rfl, c2.set _ _, by rw [Array.size_setIfInBounds]; exact c3, ?_⟩
  rw [← c4]
  simp only at c3 ⊢
  have hm : n * sz ≤ cap * sz := Nat.mul_le_mul_right sz h2
  apply List.ext_getElem?
  intro j
  simp only [Array.toList_setIfInBounds, List.getElem?_set, List.getElem?_take, List.getElem?_drop, List.length_take, List.length_drop, Array.length_toList]
  have a1 : off + i < cs.size := by omega
  have a2 : i < min (n * sz) (cs.size - off) := by omega
  by_cases hij : i = j
  · subst hij
    simp [hi, a1, a2]
  · have : off + i ≠ off + j := by omega
    simp [hij, this]
theorem entsV_set : ∀ (l : List EntD) (i : Nat) (e : EntD) (m : Nat), l[i]? = some e → (entsV l).set (i * 8 + 7) (.int .u64 (m : Int)) = entsV (l.set i { e with mask := m })
  | [], i, e, m, h => by simp at h
  | a :: l, 0, e, m, h => by
    simp at h; subst h
    simp [entsV, entV]
  | a :: l, i + 1, e, m, h => by
    have ih := entsV_set l i e m (by simpa using h)
    have e1 : entsV (a :: l) = entV a ++ entsV l := rfl
    have e2 : entsV ((a :: l).set (i + 1) { e with mask := m }) = entV a ++ entsV (l.set i { e with mask := m }) := rfl
    rw [e1, e2, ← ih, List.set_append_right _ _ (by simp [entV]; omega)]
    congr 2
    simp [entV]; omega
section
variable {w w' : World} {p : Nat} {R : ArR} {S : ArS}
theorem arCells_ents (R : ArR) (S : ArS) (l : List EntD) : arCells R { S with ents := l } = arCells R S := rfl
/-- An entry's mask is written. -/
theorem ArM.mask (h : ArM w p R S) {b off cap : Nat} (hlv : R.lv = .slice (some ⟨b, off, none⟩) S.ents.length cap) {i : Nat} {e : EntD} (he : S.ents[i]? = some e) {m : Nat} (hm : m < 18446744073709551616) :
    ArM (w.setCell ⟨b, off + i * 8 + 7, none⟩ (.int .u64 (m : Int))) p R { S with ents := S.ents.set i { e with mask := m } } := by
  have hi := (List.getElem?_eq_some_iff.1 he).1
  obtain ⟨n1, n2, n3, n4⟩ := h.list_ne (b := b) (by rw [hlv]; rfl)
  refine ⟨?_, ?_, ?_, ?_, ?_, h.sep1, h.sep2, ?_⟩
  · rw [arCells_ents]; exact h.blk.far (p := ⟨b, off + i * 8 + 7, none⟩) (by show p ≠ b; exact Ne.symm n1) _
  · have hl := h.list
    rw [hlv] at hl ⊢
    have := hl.putAt (i := i * 8 + 7) (by omega) (.int .u64 (m : Int))
    rw [entsV_set _ _ _ _ he, ← Nat.add_assoc] at this
    show Sl _ EN 8 _ (S.ents.set i _).length (entsV (S.ents.set i _))
    rw [List.length_set]; exact this
  · exact h.idx.of_block (Below.heap_setCell w ⟨b, off + i * 8 + 7, none⟩ _ R.mb (Ne.symm n2))
  · exact h.free.far (p := ⟨b, off + i * 8 + 7, none⟩) n3 _
  · exact fun t ht => (h.added t ht).far (p := ⟨b, off + i * 8 + 7, none⟩) (n4 t ht) _
  · intro e' he'
    rcases List.mem_or_eq_of_mem_set he' with h1 | h1
    · exact h.masks _ h1
    · rw [h1]; exact hm
theorem Step.set (h : ArM w p R S) {q : Addr} (hq : Own p R q.block) (u : Value) : Step p R R w (w.setCell q u) := ⟨(Mod.refl _ _).set (fun _ => hq) u, fun _ h => .inl h⟩
theorem Step.drew {R' : ArR} (h : Step p R R' w w') : Step p R R' w w'.drew := ⟨h.mod.drew, h.own⟩
theorem Own.list {b off n cap : Nat} (hlv : R.lv = .slice (some ⟨b, off, none⟩) n cap) : Own p R b := .inr (.inr (.inl (by rw [hlv]; rfl)))
theorem arCells_count (R : ArR) (S : ArS) {t : Nat} (ht : t < 64) (x : Int) : (arCells R S).setIfInBounds (4 + t) (.int .i64 x) = arCells R { S with count := upd S.count t x } := by
  refine arCells_set (by omega) ?_ fun j hj hne => ?_
  · unfold arC
    rw [if_neg (by omega), if_neg (by omega), if_neg (by omega), if_neg (by omega), if_pos (by omega), Nat.add_sub_cancel_left]
    simp [upd]
  · unfold arC upd
    by_cases h : j < 68
    · by_cases h4 : 4 ≤ j
      · simp only
        rw [if_neg (show ¬ j - 4 = t by omega)]
      · rcases (by omega : j = 0 ∨ j = 1 ∨ j = 2 ∨ j = 3) with rfl | rfl | rfl | rfl <;> rfl
    · simp only [h, if_false]
end
theorem wrap_pow {t : Nat} (ht : t < 64) : IntKind.u64.wrap (2 ^ t) = ((2 ^ t : Nat) : Int) := by
  have h := pow_lt64 ht
  have e : ((2 : Int) ^ t) = ((2 ^ t : Nat) : Int) := by simp
  rw [e, IntKind.wrap_u64]
  generalize 2 ^ t = q at h ⊢
  exact Int.emod_eq_of_lt (Int.natCast_nonneg _) (Int.ofNat_lt.2 h)
theorem clr_bits {m t : Nat} (hm : m < 18446744073709551616) (ht : t < 64) : bits .andNot .u64 (m : Int) (IntKind.u64.wrap (2 ^ t)) = ((clrB m t : Nat) : Int) := by
  rw [wrap_pow ht, u64_andNot_nat _ _ hm (pow_lt64 ht)]; rfl
theorem set_bits {m t : Nat} (hm : m < 18446744073709551616) (ht : t < 64) : bits .or .u64 (m : Int) (IntKind.u64.wrap (2 ^ t)) = ((setB m t : Nat) : Int) := by
  rw [wrap_pow ht, u64_or_nat _ _ hm (pow_lt64 ht)]; rfl
/-- What lose does. -/
def loseS (S : ArS) (t i : Nat) : ArS := match S.ents[i]? with
  | some e => if e.mask.testBit t then { S with ents := S.ents.set i { e with mask := clrB e.mask t }, count := upd S.count t (S.count t - 1) } else S
  | none => S

set_option maxRecDepth 100000 in
set_option maxHeartbeats 3200000 in
theorem lose_any (w : World) (p : Nat) (R : ArR) (S : ArS) (h : ArM w p R S) (t : Nat) (ht : t < 64) (i : Nat) (hi : i < S.ents.length) (hcn : -4000000 ≤ S.count t ∧ S.count t ≤ 4000000) :
    Calls Try.prog 45 #[.pointer (some ⟨p, 0, none⟩), .int .i64 t, .int .i64 i] w fun e w' => e = .returned (.tuple #[]) ∧ ArM w' p R (loseS S t i) ∧ Step p R R w w' := by
  obtain ⟨b, off, cap, hlv, hc1, hc2, hc, hfr⟩ := h.ents (by omega)
  obtain ⟨e, he⟩ : ∃ e, S.ents[i]? = some e := ⟨S.ents[i]'hi, List.getElem?_eq_getElem _⟩
  have c0 := h.cList
  rw [hlv] at c0
  have c1 := h.cCount ht
  have f1 := h.f (4 + t)
  have c2 : w.cell? ⟨b, off + i * 8 + 7, none⟩ = some (.int .u64 (e.mask : Int)) := hc i e 7 _ he rfl
  have f2 := hfr (off + i * 8 + 7)
  have hbit := bit_test e.mask t (h.masks e (List.mem_of_getElem? he))
  have HMS := Lib.hid (h.masks e (List.mem_of_getElem? he))
  have H := Lib.hid h
  have HLV := Lib.hid hlv
  have HE := Lib.hid he
  have k4 : (t : Int) < 64 := by omega
  have hil : (i : Int) < (S.ents.length : Int) := by omega
  clear h hc hlv hfr
  generalize hL : S.ents.length = n at *
  have HL := Lib.hid hL
  clear hL he
  go_enter Try.func45, Try.ntmps45
  by_cases hb : e.mask.testBit t = true
  · rw [hb] at hbit
    go_wp2_with fail
    rw [clr_bits HMS.out ht]
    have HM2 := Lib.hid (H.out.mask (e := e) (by rw [HL.out]; exact HLV.out) HE.out (clrB_lt (t := t) HMS.out))
    have HS2 := Lib.hid (Step.set H.out (q := ⟨b, off + i * 8 + 7, none⟩) (Own.list HLV.out) (.int .u64 (clrB e.mask t : Nat)))
    generalize World.setCell w _ _ = w2 at HM2 HS2 ⊢
    have c3 : w2.cell? ⟨p, 4 + t, none⟩ = some (.int .i64 (S.count t)) := HM2.out.cCount ht
    have f3 := HM2.out.f (4 + t)
    have hwc : IntKind.i64.wrap (S.count t - 1) = S.count t - 1 := by rw [IntKind.wrap_i64]; omega
    clear c0 c1 c2 f1 f2
    go_region
    go_wp2
    go_end0
    have hl : loseS S t i = { S with ents := S.ents.set i { e with mask := clrB e.mask t }, count := upd S.count t (S.count t - 1) } := by
      unfold loseS; rw [HE.out]; simp only [hb, if_true]
    rw [hl]
    refine ⟨rfl, (HM2.out.put (arCells_count R _ ht (S.count t - 1)) rfl rfl rfl rfl rfl).drew, ?_⟩
    exact (HS2.out.trans (Step.set HM2.out (q := ⟨p, 4 + t, none⟩) (.inl rfl) _)).drew
  · rw [Bool.not_eq_true] at hb
    rw [hb] at hbit
    go_wp2_with fail
    go_end0
    have hl : loseS S t i = S := by
      unfold loseS; rw [HE.out]; simp [hb]
    rw [hl]
    exact ⟨rfl, H.out, Step.refl _ _ _⟩
end Go.Proofs.Ytfoipadgicjcaaa
