/- plane.Tidy. -/
import Derived.Test.YtlcjadgaommfmaaDoorSortC
import Derived.Test.YtlcjadgaommfmaaDoorCompactW
namespace Go.Proofs.YtlcjadgaommfmaaDoor
open Go.RowKit

theorem ltC_irrefl (a : Int × Int) : ¬ ltC a a := by unfold ltC; omega
theorem ltC_trans (a b c : Int × Int) (h1 : ltC a b) (h2 : ltC b c) : ltC a c := by unfold ltC at *; omega
theorem ltC_tri (a b : Int × Int) : ltC a b ∨ a = b ∨ ltC b a := by
  unfold ltC
  rcases Int.lt_trichotomy a.2 b.2 with h | h | h
  · exact .inl (.inl h)
  · rcases Int.lt_trichotomy a.1 b.1 with k | k | k
    · exact .inl (.inr ⟨h, k⟩)
    · exact .inr (.inl (Prod.ext k h))
    · exact .inr (.inr (.inr ⟨h.symm, k⟩))
  · exact .inr (.inr (.inl h))

/-- t is l tidied: in order, each once. -/
def Tid (l t : List (Int × Int)) : Prop := t.Pairwise ltC ∧ ∀ c, c ∈ t ↔ c ∈ l
theorem Tid.unique {l t t' : List (Int × Int)} (h : Tid l t) (h' : Tid l t') : t = t' := by
  obtain ⟨h1, h2⟩ := h
  obtain ⟨k1, k2⟩ := h'
  have hm : ∀ c, c ∈ t ↔ c ∈ t' := fun c => (h2 c).trans (k2 c).symm
  clear h2 k2
  induction t generalizing t' with
  | nil =>
    cases t' with
    | nil => rfl
    | cons a r => have := (hm a).2 (by simp); simp at this
  | cons a r ih =>
    cases t' with
    | nil => have := (hm a).1 (by simp); simp at this
    | cons a' r' =>
      rw [List.pairwise_cons] at h1 k1
      have hab : a = a' := by
        have e1 := (hm a).1 (by simp)
        have e2 := (hm a').2 (by simp)
        rw [List.mem_cons] at e1 e2
        rcases e1 with e1 | e1
        · exact e1
        · rcases e2 with e2 | e2
          · exact e2.symm
          · exact absurd (ltC_trans _ _ _ (h1.1 _ e2) (k1.1 _ e1)) (ltC_irrefl _)
      subst hab
      congr 1
      apply ih h1.2 k1.2
      intro c
      constructor
      · intro hc
        have := (hm c).1 (by simp [hc])
        rw [List.mem_cons] at this
        rcases this with e | e
        · subst e; exact absurd (h1.1 _ hc) (ltC_irrefl _)
        · exact e
      · intro hc
        have := (hm c).2 (by simp [hc])
        rw [List.mem_cons] at this
        rcases this with e | e
        · subst e; exact absurd (k1.1 _ hc) (ltC_irrefl _)
        · exact e

def okZ (x : Int) : Prop := -1099511627776 < x ∧ x < 1099511627776
def okC (c : Int × Int) : Prop := okZ c.1 ∧ okZ c.2

theorem tid_of {l : List (Int × Int)} {n : Nat} {F : Nat → Int × Int} (hp : ((List.range n).map F).Perm l) (hs : ∀ i j, i < j → j < n → ¬ ltC (F j) (F i)) : Tid l (kept F n) := by
  refine ⟨compactL_sorted ltC_irrefl ltC_trans _ ?_, fun c => (compactL_mem _ c).trans hp.mem_iff⟩
  rw [List.pairwise_iff_getElem]
  intro i j hi hj hij
  simp at hi hj
  simp only [List.getElem_map, List.getElem_range]
  rcases ltC_tri (F i) (F j) with h | h | h
  · exact .inl h
  · exact .inr h
  · exact absurd h (hs i j hij hj)

theorem compact_small (w : World) (A : Option Addr) (n cap : Nat) (h : n < 2) :
    Calls Tryd.prog 31 #[.slice A n cap] w fun e w' => e = .returned (.slice A n cap) ∧ w = w' := by
  go_enter Tryd.func31, Tryd.ntmps31
  go_wp2
  go_ret
  exact ⟨rfl, rfl⟩

/-- Behind Compact: sorted cells become tidy ones; less than two stay. -/
def CompPost2 (w : World) (B b off n : Nat) (F : Nat → Int × Int) (e : Ending) (w' : World) : Prop :=
  ∃ m cap' F', e = .returned (.slice (some ⟨b, off, none⟩) m cap') ∧ m ≤ n ∧ m ≤ cap' ∧ cap' ≤ maxLen ∧ (List.range m).map F' = kept F n ∧ RowC w' 50 b off n F' ∧ Mod (fun k => B ≤ k) w w'
theorem compact_two (w : World) (B b off n cap : Nat) (F : Nat → Int × Int) (h : RowC w 50 b off n F) (hB : B ≤ b) (hnc : n ≤ cap) (hcap : cap ≤ maxLen) (h1 : 0 < n) :
    Calls Tryd.prog 31 #[.slice (some ⟨b, off, none⟩) n cap] w (CompPost2 w B b off n F) := by
  by_cases h2 : 2 ≤ n
  · refine (compact_any w b off n cap F h hnc hcap h2).mono ?_
    rintro e w' ⟨m, F', rfl, k1, k2, k3, k4⟩
    exact ⟨m, cap, F', rfl, k1, by omega, hcap, k2, k3, k4.mono fun _ _ e => by subst e; exact hB⟩
  · refine (compact_small w _ n cap (by omega)).mono ?_
    rintro e w' ⟨rfl, rfl⟩
    obtain rfl : n = 1 := by omega
    exact ⟨1, cap, F, rfl, Nat.le_refl _, hnc, hcap, rfl, h, Mod.refl _ _⟩

/-- What Tidy answers of cells that can be tidied. -/
def TidyPost (w : World) (l : List (Int × Int)) (e : Ending) (w' : World) : Prop :=
  ∃ A m t, e = .returned (.tuple #[.slice A m m, .int .i64 0]) ∧ Tid l t ∧ Sl w' 50 2 (.slice A m m) m (flat t) ∧ (∀ b, sblk (.slice A m m) = some b → w.heap.size ≤ b) ∧ Below w.heap.size w w'

theorem tidy_full (w : World) (A : Option Addr) (n cap : Nat) (h : 4096 < n) (hc : n ≤ maxLen) :
    Calls Tryd.prog 11 #[.slice A n cap] w fun e w' => e = .returned (.tuple #[.slice none 0 0, .int .i64 5]) ∧ w = w' := by
  unfold maxLen at hc
  go_enter Tryd.func11, Tryd.ntmps11
  go_wp2
  go_ret2
  exact ⟨rfl, rfl⟩

set_option maxHeartbeats 1600000 in
theorem tidy_ok (w : World) (B n : Nat) (v : Value) (l : List (Int × Int)) (h : Rd w B 2 v n (flat l)) (hB : B ≤ w.heap.size) (hn : n ≤ 4096) (hok : ∀ c ∈ l, okC c) :
    Calls Tryd.prog 11 #[v] w (TidyPost w l) := by
  obtain ⟨A, cap, rfl, hc1, hc2⟩ := h.form
  obtain ⟨hl, hat⟩ := h.pairs
  have H := Lib.hid h
  have HAT := Lib.hid hat
  have HOK := Lib.hid hok
  have HL := Lib.hid hl
  clear h hat hok hl
  unfold maxLen at hc2
  go_enter Tryd.func11, Tryd.ntmps11
  go_wp2
  go_loopw [12] (fun iv wx => ∃ k : Nat, k ≤ n ∧ iv = .int .i64 k ∧ Below w.heap.size w wx) (fun iv _ => n - (intOf iv).toNat)
  case atStart => exact ⟨0, Nat.zero_le _, rfl, Below.refl _ _⟩
  case round =>
    obtain ⟨k, hk, rfl, hbx⟩ := hrel
    by_cases hlt : k < n
    · obtain ⟨b, off, cap', he, _, _, hb1, hcs⟩ := HAT.out (by omega)
      injection he with he1 he2 he3
      subst he1 he3
      obtain ⟨c1, c2⟩ := hcs k hlt
      rw [← hbx.cell (p := ⟨b, off + k * 2, none⟩) (by show b < _; omega)] at c1
      rw [← hbx.cell (p := ⟨b, off + k * 2 + 1, none⟩) (by show b < _; omega)] at c2
      have hokk : okC l[k]! := HOK.out _ (by rw [List.getElem!_eq_getElem?_getD, List.getElem?_eq_getElem (by rw [HL.out]; exact hlt)]; simp)
      generalize l[k]! = c at c1 c2 hokk
      obtain ⟨x, y⟩ := c
      obtain ⟨o1, o2⟩ := hokk
      have e1 : decide (-1099511627776 < x ∧ x < 1099511627776) = true := decide_eq_true o1
      have e2 : decide (-1099511627776 < y ∧ y < 1099511627776) = true := decide_eq_true o2
      have W1 : ∀ w, Calls Tryd.prog 26 #[.int .i64 x] w fun e w' => e = .returned (.bool true) ∧ w = w' := fun w => e1 ▸ within_any x w
      have W2 : ∀ w, Calls Tryd.prog 26 #[.int .i64 y] w fun e w' => e = .returned (.bool true) ∧ w = w' := fun w => e2 ▸ within_any y w
      have HW1 := Lib.hid W1
      have HW2 := Lib.hid W2
      have HBX := Lib.hid hbx
      clear hcs e1 e2 W1 W2 o1 o2 hbx
      go_wp2_with fail
      refine (HW1.out _).mono ?_; rintro e w' ⟨rfl, rfl⟩
      go_wp2_with fail
      refine (HW2.out _).mono ?_; rintro e w' ⟨rfl, rfl⟩
      go_wp2
      go_roundw
      case rel => exact ⟨k + 1, by omega, by go_num, HBX.out.alloc HBX.out.size _⟩
      case measure => simp [intOf]; omega
    · obtain rfl : k = n := by omega
      have hr : Rd wr B 2 (.slice A k cap) k (flat l) := H.out.keep fun b hb => hbx.block b (by omega)
      have HBX := Lib.hid hbx
      have HR := Lib.hid hr
      have hsz := hbx.size
      clear hbx hr
      go_wp2_with fail
      (with_reducible refine (clone_any wr B k _ l HR.out (by omega) (by omega)).mono ?_)
      rintro e w1 ⟨v1, rfl, hs1, hf1, hb1⟩
      obtain ⟨A1, cap1, rfl, d1, d2⟩ := hs1.form
      have HS1 := Lib.hid hs1
      have HF1 := Lib.hid hf1
      have HB1 := Lib.hid hb1
      clear hs1 hf1 hb1
      rcases Nat.eq_zero_or_pos k with hk0 | hk0
      · subst hk0
        have hl0 : l = [] := List.eq_nil_of_length_eq_zero HL.out
        subst hl0
        go_wp2_with fail
        (with_reducible refine (sort_none w1 A1 cap1 _).mono ?_)
        rintro e w2 ⟨rfl, rfl⟩
        go_wp2_with fail
        (with_reducible refine (compact_small w1 A1 0 cap1 (by omega)).mono ?_)
        rintro e w2 ⟨rfl, rfl⟩
        go_wp2_with fail
        (with_reducible refine (clip_any w1 A1 0 cap1 (by omega) d2).mono ?_)
        rintro e w2 ⟨rfl, rfl⟩
        go_wp2
        go_ret2
        refine ⟨A1, 0, [], rfl, ⟨by simp, by simp⟩, ?_, fun b hb => ?_, HBX.out.trans (HB1.out.mono HBX.out.size)⟩
        · obtain ⟨z1, A', cap', z2, z3, z4, z5, z6⟩ := HS1.out
          injection z2 with z2 _ z7
          subst z2 z7
          refine ⟨z1, _, _, rfl, Nat.le_refl _, Nat.zero_le _, fun _ => rfl, fun a ha => ?_⟩
          obtain ⟨cs, y1, y2, y3, y4⟩ := z6 a ha
          exact ⟨cs, y1, y2, by omega, y4⟩
        · have := HF1.out b (by cases A1 with | none => simp [sblk] at hb | some a => exact hb)
          have := HBX.out.size; omega
      · obtain ⟨b, off, cap', he, _, _, _, _, _, _⟩ := HS1.out.at hk0
        injection he with he1 he2 he3
        subst he1 he3
        obtain ⟨hrow, hll⟩ := HS1.out.rowC
        have hbB : wr.heap.size ≤ b := HF1.out b rfl
        have HROW := Lib.hid hrow
        clear hrow
        go_wp2_with fail
        (with_reducible refine (sort_any w1 b off k cap1 _ HROW.out (by omega)).mono ?_)
        rintro e w2 ⟨rfl, F2, hp2, hs2, hr2, hm2⟩
        have HP2 := Lib.hid hp2
        have HS2 := Lib.hid hs2
        have HR2 := Lib.hid hr2
        have HM2 := Lib.hid hm2
        clear hp2 hs2 hr2 hm2
        go_wp2_with fail
        (with_reducible refine (compact_two w2 wr.heap.size b off k cap1 F2 HR2.out hbB d1 d2 hk0).mono ?_)
        rintro e w3 ⟨m, cap3, F3, rfl, g1, g2, g3, g4, g5, g6⟩
        have HG4 := Lib.hid g4
        have HG5 := Lib.hid g5
        have HG6 := Lib.hid g6
        clear g4 g5 g6
        go_wp2_with fail
        (with_reducible refine (clip_any w3 _ m cap3 g2 g3).mono ?_)
        rintro e w4 ⟨rfl, rfl⟩
        go_wp2
        go_ret2
        refine ⟨some ⟨b, off, none⟩, m, kept F2 k, rfl, ?_, ?_, fun b' hb' => ?_, ?_⟩
        · refine tid_of ?_ HS2.out
          have e := range_map_get l
          rw [HL.out] at e
          exact HP2.out.trans (by rw [e])
        · rw [← HG4.out]; exact HG5.out.sl (Nat.le_refl _) g1 (by unfold maxLen; omega)
        · have hb'' : some b = some b' := hb'
          injection hb'' with hb''
          have := HBX.out.size; omega
        · have h12 : Below wr.heap.size w1 w2 := HM2.out.below HB1.out.size (fun x hx e => by omega)
          have h23 : Below wr.heap.size w2 w3 := HG6.out.below (by have := HB1.out.size; have := h12.size; omega) (fun x hx e => by omega)
          exact HBX.out.trans (((HB1.out.trans h12).trans h23).mono HBX.out.size)

theorem first_bad (l : List (Int × Int)) (h : ∃ c ∈ l, ¬ okC c) : ∃ p, p < l.length ∧ ¬ okC l[p]! ∧ ∀ j, j < p → okC l[j]! := by
  induction l with
  | nil => obtain ⟨c, hc, _⟩ := h; simp at hc
  | cons a r ih =>
    by_cases ha : okC a
    · obtain ⟨p, h1, h2, h3⟩ := ih (by
        obtain ⟨c, hc, hb⟩ := h
        rw [List.mem_cons] at hc
        rcases hc with rfl | hc
        · exact absurd ha hb
        · exact ⟨c, hc, hb⟩)
      refine ⟨p + 1, by simp; omega, by simpa using h2, fun j hj => ?_⟩
      cases j with
      | zero => simpa using ha
      | succ j => simpa using h3 j (by omega)
    · exact ⟨0, by simp, by simpa using ha, fun j hj => absurd hj (by omega)⟩

set_option maxHeartbeats 1600000 in
theorem tidy_range (w : World) (B n : Nat) (v : Value) (l : List (Int × Int)) (h : Rd w B 2 v n (flat l)) (hB : B ≤ w.heap.size) (hn : n ≤ 4096) (hbad : ∃ c ∈ l, ¬ okC c) :
    Calls Tryd.prog 11 #[v] w fun e w' => e = .returned (.tuple #[.slice none 0 0, .int .i64 3]) ∧ Below w.heap.size w w' := by
  obtain ⟨A, cap, rfl, hc1, hc2⟩ := h.form
  obtain ⟨hl, hat⟩ := h.pairs
  obtain ⟨p, hp, hpb, hpo⟩ := first_bad l hbad
  rw [hl] at hp
  have HAT := Lib.hid hat
  have HPB := Lib.hid hpb
  have HPO := Lib.hid hpo
  clear h hat hl hbad hpb hpo
  unfold maxLen at hc2
  go_enter Tryd.func11, Tryd.ntmps11
  go_wp2
  go_loopw [12] (fun iv wx => ∃ k : Nat, k ≤ p ∧ iv = .int .i64 k ∧ Below w.heap.size w wx) (fun iv _ => n - (intOf iv).toNat)
  case atStart => exact ⟨0, Nat.zero_le _, rfl, Below.refl _ _⟩
  case round =>
    obtain ⟨k, hk, rfl, hbx⟩ := hrel
    have hlt : k < n := by omega
    obtain ⟨b, off, cap', he, _, _, hb1, hcs⟩ := HAT.out (by omega)
    injection he with he1 he2 he3
    subst he1 he3
    obtain ⟨c1, c2⟩ := hcs k hlt
    rw [← hbx.cell (p := ⟨b, off + k * 2, none⟩) (by show b < _; omega)] at c1
    rw [← hbx.cell (p := ⟨b, off + k * 2 + 1, none⟩) (by show b < _; omega)] at c2
    have HBX := Lib.hid hbx
    clear hcs hbx
    by_cases hkp : k < p
    · have hokk := HPO.out k hkp
      generalize l[k]! = c at c1 c2 hokk
      obtain ⟨x, y⟩ := c
      obtain ⟨o1, o2⟩ := hokk
      have e1 : decide (-1099511627776 < x ∧ x < 1099511627776) = true := decide_eq_true o1
      have e2 : decide (-1099511627776 < y ∧ y < 1099511627776) = true := decide_eq_true o2
      have W1 : ∀ w, Calls Tryd.prog 26 #[.int .i64 x] w fun e w' => e = .returned (.bool true) ∧ w = w' := fun w => e1 ▸ within_any x w
      have W2 : ∀ w, Calls Tryd.prog 26 #[.int .i64 y] w fun e w' => e = .returned (.bool true) ∧ w = w' := fun w => e2 ▸ within_any y w
      have HW1 := Lib.hid W1
      have HW2 := Lib.hid W2
      clear e1 e2 W1 W2 o1 o2
      go_wp2_with fail
      refine (HW1.out _).mono ?_; rintro e w' ⟨rfl, rfl⟩
      go_wp2_with fail
      refine (HW2.out _).mono ?_; rintro e w' ⟨rfl, rfl⟩
      go_wp2
      go_roundw
      case rel => exact ⟨k + 1, by omega, by go_num, HBX.out.alloc HBX.out.size _⟩
      case measure => simp [intOf]; omega
    · obtain rfl : k = p := by omega
      have hbd := HPB.out
      clear HPB HPO
      generalize l[k]! = c at c1 c2 hbd
      obtain ⟨x, y⟩ := c
      by_cases o1 : okZ x
      · have o2 : ¬ okZ y := fun h => hbd ⟨o1, h⟩
        have e1 : decide (-1099511627776 < x ∧ x < 1099511627776) = true := decide_eq_true o1
        have e2 : decide (-1099511627776 < y ∧ y < 1099511627776) = false := decide_eq_false o2
        have W1 : ∀ w, Calls Tryd.prog 26 #[.int .i64 x] w fun e w' => e = .returned (.bool true) ∧ w = w' := fun w => e1 ▸ within_any x w
        have W2 : ∀ w, Calls Tryd.prog 26 #[.int .i64 y] w fun e w' => e = .returned (.bool false) ∧ w = w' := fun w => e2 ▸ within_any y w
        have HW1 := Lib.hid W1
        have HW2 := Lib.hid W2
        clear e1 e2 W1 W2 o1 o2 hbd
        go_wp2_with fail
        refine (HW1.out _).mono ?_; rintro e w' ⟨rfl, rfl⟩
        go_wp2_with fail
        refine (HW2.out _).mono ?_; rintro e w' ⟨rfl, rfl⟩
        go_wp2
        go_ret2
        exact ⟨rfl, HBX.out.alloc HBX.out.size _⟩
      · have e1 : decide (-1099511627776 < x ∧ x < 1099511627776) = false := decide_eq_false o1
        have W1 : ∀ w, Calls Tryd.prog 26 #[.int .i64 x] w fun e w' => e = .returned (.bool false) ∧ w = w' := fun w => e1 ▸ within_any x w
        have HW1 := Lib.hid W1
        clear e1 W1 o1 hbd
        go_wp2_with fail
        refine (HW1.out _).mono ?_; rintro e w' ⟨rfl, rfl⟩
        go_wp2
        go_ret2
        exact ⟨rfl, HBX.out.alloc HBX.out.size _⟩
end Go.Proofs.YtlcjadgaommfmaaDoor
