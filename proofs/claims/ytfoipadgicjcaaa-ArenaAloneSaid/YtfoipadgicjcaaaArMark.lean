/- arena: Limit, Mark, Undo, Level. -/
import Derived.Test.YtfoipadgicjcaaaArPut
namespace Go.Proofs.Ytfoipadgicjcaaa
open Go.RowKit

section
variable {w w' : World} {p : Nat} {R : ArR} {S : ArS}
theorem arCells_quota (R : ArR) (S : ArS) {t : Nat} (ht : t < 64) (x : Int) : (arCells R S).setIfInBounds (68 + t) (.int .i64 x) = arCells R { S with quota := upd S.quota t x } := by
  refine arCells_set (by omega) ?_ fun j hj hne => ?_
  · unfold arC
    rw [if_neg (by omega), if_neg (by omega), if_neg (by omega), if_neg (by omega), if_neg (by omega), if_pos (by omega), Nat.add_sub_cancel_left]
    simp [upd]
  · unfold arC upd
    by_cases h : 68 ≤ j
    · simp only
      rw [if_neg (show ¬ j - 68 = t by omega)]
    · have h68 : j < 68 := by omega
      simp only [h68, if_true]
theorem arCells_added (R : ArR) (S : ArS) {t : Nat} (ht : t < 64) (v : Value) (l : List Int) : (arCells R S).setIfInBounds (132 + t) v = arCells { R with av := upd R.av t v } { S with added := upd S.added t l } := by
  refine arCells_set (by omega) ?_ fun j hj hne => ?_
  · unfold arC
    rw [if_neg (by omega), if_neg (by omega), if_neg (by omega), if_neg (by omega), if_neg (by omega), if_neg (by omega), if_pos (by omega), Nat.add_sub_cancel_left]
    simp [upd]
  · unfold arC upd
    by_cases h : 132 ≤ j
    · simp only
      rw [if_neg (show ¬ j - 132 = t by omega)]
    · have h1 : j < 132 := by omega
      simp only [h1, if_true]
theorem upd_same {α : Type} (f : Nat → α) (t : Nat) (x : α) : upd f t x t = x := by simp [upd]
theorem upd_ne {α : Type} (f : Nat → α) {t k : Nat} (x : α) (h : k ≠ t) : upd f t x k = f k := by simp [upd, h]
/-- What a tenant was given is written anew. -/
theorem ArM.setAdded (h : ArM w p R S) {t : Nat} (ht : t < 64) {v : Value} {l : List Int} (hs : Sl w IT 1 v l.length (intsV l)) (hv : ∀ b, sblk v = some b → sblk (R.av t) = some b ∨ ¬ Own p R b) :
    ArM (w.setCell ⟨p, 132 + t, none⟩ v) p { R with av := upd R.av t v } { S with added := upd S.added t l } := by
  obtain ⟨n1, n2, n3, n4⟩ := h.p_ne
  have hvp : sblk v ≠ some p := fun e => by
    rcases hv p e with h1 | h1
    · exact n4 t ht h1
    · exact h1 (.inl rfl)
  refine ⟨by rw [← arCells_added R S ht v l]; exact h.blk.set _ _, h.list.far (p := ⟨p, 132 + t, none⟩) n2 _, h.idx.of_block (Below.heap_setCell w ⟨p, 132 + t, none⟩ v R.mb n1.symm), h.free.far (p := ⟨p, 132 + t, none⟩) n3 _, fun k hk => ?_, fun k hk b hb => ?_, fun k k' hk hk' hne b hb => ?_, h.masks⟩
  · show Sl _ IT 1 (upd R.av t v k) (upd S.added t l k).length (intsV (upd S.added t l k))
    by_cases e : k = t
    · subst e; rw [upd_same, upd_same]; exact hs.far (p := ⟨p, 132 + k, none⟩) hvp _
    · rw [upd_ne _ _ e, upd_ne _ _ e]; exact (h.added k hk).far (p := ⟨p, 132 + t, none⟩) (n4 k hk) _
  · show sblk (upd R.av t v k) ≠ some b
    by_cases e : k = t
    · subst e; rw [upd_same]; intro e2
      rcases hv b e2 with h1 | h1
      · exact h.sep1 k hk b hb h1
      · exact h1 (.inr (.inr (.inr (.inl hb))))
    · rw [upd_ne _ _ e]; exact h.sep1 k hk b hb
  · change sblk (upd R.av t v k) = some b at hb
    show sblk (upd R.av t v k') ≠ some b
    by_cases e : k = t
    · subst e
      rw [upd_same] at hb
      rw [upd_ne _ _ (Ne.symm hne)]
      intro e2
      rcases hv b hb with h1 | h1
      · exact h.sep2 k k' hk hk' hne b h1 e2
      · exact h1 (.inr (.inr (.inr (.inr ⟨k', hk', e2⟩))))
    · rw [upd_ne _ _ e] at hb
      by_cases e' : k' = t
      · subst e'
        rw [upd_same]; intro e2
        rcases hv b e2 with h1 | h1
        · exact h.sep2 k k' hk hk' hne b hb h1
        · exact h1 (.inr (.inr (.inr (.inr ⟨k, hk, hb⟩))))
      · rw [upd_ne _ _ e']; exact h.sep2 k k' hk hk' hne b hb
theorem Step.added (h : ArM w p R S) {t : Nat} {v : Value} (hv : ∀ b, sblk v = some b → Own p R b ∨ w.heap.size ≤ b) : Step p R { R with av := upd R.av t v } w (w.setCell ⟨p, 132 + t, none⟩ v) :=
  ⟨(Mod.refl _ _).set (p := ⟨p, 132 + t, none⟩) (fun _ => .inl rfl) _, fun b hb => by
    rcases hb with h1 | h1 | h1 | h1 | ⟨k, hk, h1⟩
    · exact .inl (.inl h1)
    · exact .inl (.inr (.inl h1))
    · exact .inl (.inr (.inr (.inl h1)))
    · exact .inl (.inr (.inr (.inr (.inl h1))))
    · change sblk (upd R.av t v k) = some b at h1
      by_cases e : k = t
      · subst e; rw [upd_same] at h1; exact hv b h1
      · rw [upd_ne _ _ e] at h1; exact .inl (.inr (.inr (.inr (.inr ⟨k, hk, h1⟩))))⟩
end
def levelOf (S : ArS) (id : Int) : Int := match S.ents[id.toNat]? with | some e => e.level | none => 0
theorem owns_range {S : ArS} {t : Nat} {id kind : Int} (h2 : 2 ≤ S.ents.length) (h : ownsB S t id kind = true) : ∃ (i : Nat) (e : EntD), id = i ∧ i < S.ents.length ∧ S.ents[i]? = some e := by
  unfold ownsB at h
  rw [Bool.or_eq_true] at h
  have key : ∃ i : Nat, id = i ∧ i < S.ents.length := by
    rcases h with h | h
    · simp at h
      rcases h.2 with rfl | rfl
      · exact ⟨0, rfl, by omega⟩
      · exact ⟨1, rfl, by omega⟩
    · unfold entAt at h
      by_cases h3 : 2 ≤ id
      · rw [if_pos h3] at h
        cases he : S.ents[id.toNat]? with
        | none => rw [he] at h; cases h
        | some e => exact ⟨id.toNat, by omega, (List.getElem?_eq_some_iff.1 he).1⟩
      · rw [if_neg h3] at h; cases h
  obtain ⟨i, h4, h5⟩ := key
  exact ⟨i, S.ents[i], h4, h5, List.getElem?_eq_getElem h5⟩
def nilV : Value := .slice none 0 0

set_option maxRecDepth 100000 in
theorem limit_any (w : World) (p : Nat) (R : ArR) (S : ArS) (h : ArM w p R S) (t : Nat) (ht : t < 64) (n : Int) (hn : 0 ≤ n ∧ n ≤ S.room) :
    Calls Try.prog 17 #[.pointer (some ⟨p, 0, none⟩), .int .i64 t, .int .i64 n] w fun e w' => e = .returned (.int .i64 0) ∧ ArM w' p R { S with quota := upd S.quota t n } ∧ Step p R R w w' := by
  have c0 := h.cRoom
  have c1 := h.cQuota ht
  have f1 := h.f (68 + t)
  have k4 : (t : Int) < 64 := by omega
  obtain ⟨hn1, hn2⟩ := hn
  have H := Lib.hid h
  clear h
  go_enter Try.func17, Try.ntmps17
  go_wp2_with fail
  (with_reducible refine (tenant_any w t).mono ?_)
  rintro e wq ⟨rfl, rfl⟩
  rw [decide_eq_true (show 0 ≤ (t : Int) ∧ (t : Int) < 64 by omega)]
  go_wp2_with fail
  go_ret
  exact ⟨rfl, H.out.put (arCells_quota R S ht n) rfl rfl rfl rfl rfl, Step.set H.out (q := ⟨p, 68 + t, none⟩) (.inl rfl) _⟩

set_option maxRecDepth 100000 in
theorem mark_any (w : World) (p : Nat) (R : ArR) (S : ArS) (h : ArM w p R S) (t : Nat) (ht : t < 64) :
    Calls Try.prog 21 #[.pointer (some ⟨p, 0, none⟩), .int .i64 t] w fun e w' => e = .returned (.int .i64 0) ∧ ArM w' p { R with av := upd R.av t nilV } { S with added := upd S.added t [] } ∧ Step p R { R with av := upd R.av t nilV } w w' := by
  have c1 := h.cAdded ht
  have f1 := h.f (132 + t)
  have k4 : (t : Int) < 64 := by omega
  have H := Lib.hid h
  clear h
  go_enter Try.func21, Try.ntmps21
  go_wp2_with fail
  (with_reducible refine (tenant_any w t).mono ?_)
  rintro e wq ⟨rfl, rfl⟩
  rw [decide_eq_true (show 0 ≤ (t : Int) ∧ (t : Int) < 64 by omega)]
  go_wp2_with fail
  go_ret
  exact ⟨rfl, H.out.setAdded ht (l := []) (Sl.nil _ _ _) (fun b hb => by simp [nilV, sblk] at hb), Step.added H.out (fun b hb => by simp [nilV, sblk] at hb)⟩

set_option maxRecDepth 100000 in
set_option maxHeartbeats 3200000 in
theorem level_any (w : World) (p : Nat) (R : ArR) (S : ArS) (h : ArM w p R S) (hlen : 2 ≤ S.ents.length) (t : Nat) (ht : t < 64) (id : Int) :
    Calls Try.prog 49 #[.pointer (some ⟨p, 0, none⟩), .int .i64 t, .int .i64 id] w fun e w' =>
      e = .returned (.tuple (if ownsB S t id 0 then #[.int .i64 (levelOf S id), .int .i64 0] else #[.int .i64 0, .int .i64 6])) ∧ w = w' := by
  obtain ⟨b, off, cap, hlv, hc1, hc2, hc, _⟩ := h.ents (by omega)
  have c0 := h.cList
  rw [hlv] at c0
  have H := Lib.hid h
  have HC := Lib.hid hc
  have k4 : (t : Int) < 64 := by omega
  have HO := Lib.hid (owns_any w p R S h hlen t ht id 0)
  clear h hc hlv
  cases hb : ownsB S t id 0
  · rw [if_neg Bool.false_ne_true]
    rw [hb] at HO
    clear hb
    generalize hL : S.ents.length = n at *
    clear hL
    go_enter Try.func49, Try.ntmps49
    go_wp2_with fail
    (with_reducible refine (tenant_any w t).mono ?_)
    rintro e wq ⟨rfl, rfl⟩
    rw [decide_eq_true (show 0 ≤ (t : Int) ∧ (t : Int) < 64 by omega)]
    go_wp2_with fail
    (with_reducible refine HO.out.mono ?_)
    rintro e wq ⟨rfl, rfl⟩
    go_wp2_with fail
    go_ret2
    exact ⟨rfl, rfl⟩
  · rw [if_pos rfl]
    rw [hb] at HO
    obtain ⟨i, e, rfl, hi, he⟩ := owns_range hlen hb
    have c1 : w.cell? ⟨b, off + i * 8 + 5, none⟩ = some (.int .i64 e.level) := HC.out i e 5 _ he rfl
    have hil : (i : Int) < (S.ents.length : Int) := by omega
    have HX : Hid (levelOf S (i : Int) = e.level) := by show levelOf S (i : Int) = e.level; unfold levelOf; rw [Int.toNat_natCast, he]
    clear hi he hb
    generalize hL : S.ents.length = n at *
    clear hL
    go_enter Try.func49, Try.ntmps49
    go_wp2_with fail
    (with_reducible refine (tenant_any w t).mono ?_)
    rintro e wq ⟨rfl, rfl⟩
    rw [decide_eq_true (show 0 ≤ (t : Int) ∧ (t : Int) < 64 by omega)]
    go_wp2_with fail
    (with_reducible refine HO.out.mono ?_)
    rintro e wq ⟨rfl, rfl⟩
    go_wp2_with fail
    go_ret2
    exact ⟨by rw [HX.out]; rfl, rfl⟩
end Go.Proofs.Ytfoipadgicjcaaa
