/- rle: what is read is in order; lines are short. In plain words: no program is named here. -/
import Derived.Test.YtlcjadgaommfmaaDoorRlE
namespace Go.Proofs.YtlcjadgaommfmaaDoor
open Go.Lib

theorem numGo_lt : ∀ (f : Nat) (s : List UInt8) (n : Nat), (numGo f s n).1 + 1 ≤ (n + 1) * 10 ^ (numGo f s n).2.1
  | 0, s, n => by simp [numGo]
  | f + 1, [], n => by simp [numGo]
  | f + 1, c :: s, n => by
    rw [numGo]
    split
    · rename_i hc
      have hd := of_decide_eq_true hc
      have ih := numGo_lt f s (n * 10 + (c.toNat - 48))
      dsimp only
      rw [Nat.pow_succ]
      generalize (numGo f s (n * 10 + (c.toNat - 48))).1 = m at ih ⊢
      generalize 10 ^ (numGo f s (n * 10 + (c.toNat - 48))).2.1 = q at ih ⊢
      have h2 : (n * 10 + (c.toNat - 48) + 1) * q ≤ ((n + 1) * 10) * q := Nat.mul_le_mul_right _ (by omega)
      have h3 : (n + 1) * (q * 10) = (n + 1) * 10 * q := by rw [Nat.mul_comm q 10, Nat.mul_assoc]
      omega
    · simp
theorem rnum_lt {s : List UInt8} (h : (rnum s).2.2 = true) : (rnum s).1 < 1000000000000 := by
  unfold rnum at h ⊢
  have h := of_decide_eq_true h
  have hl := numGo_lt 13 s 0
  have hp : 10 ^ (numGo 13 s 0).2.1 ≤ 10 ^ 12 := Nat.pow_le_pow_right (by decide) (by omega)
  dsimp only
  omega
/-- What was read so far lies ahead of the place. -/
structure ScI (w h : Int) (x y : Int) (out : List (Int × Int)) : Prop where
  sort : out.Pairwise ltR
  fits : ∀ c ∈ out, (0 ≤ c.1 ∧ c.1 < w) ∧ (0 ≤ c.2 ∧ c.2 < h)
  ahead : ∀ c ∈ out, c.2 < y ∨ c.2 = y ∧ c.1 < x
  pos : (0 ≤ x ∧ x ≤ coordM) ∧ (0 ≤ y ∧ y ≤ coordM)
  few : out.length ≤ 4096
theorem rowC_sorted (x y : Int) : ∀ n : Nat, (rowC x y n).Pairwise ltR ∧ ∀ c ∈ rowC x y n, (x ≤ c.1 ∧ c.1 < x + n) ∧ c.2 = y := by
  intro n
  refine ⟨?_, fun c hc => ?_⟩
  · unfold rowC
    rw [List.pairwise_map]
    exact List.Pairwise.imp (fun {a b} hab => .inr ⟨rfl, by dsimp only; omega⟩) List.pairwise_lt_range
  · unfold rowC at hc
    obtain ⟨i, hi, rfl⟩ := List.mem_map.1 hc
    rw [List.mem_range] at hi
    dsimp only
    omega
theorem act_sorted {w h : Int} (hw : w ≤ 1000000000000) (hh : h ≤ 1000000000000) {k : List UInt8 → Int → Int → List (Int × Int) → List (Int × Int) × Int} {n : Nat} {d : UInt8} {r : List UInt8} {x y : Int} {out res : List (Int × Int)}
    (hn : n ≠ 0) (hi : ScI w h x y out) (hk : ∀ x y out, ScI w h x y out → k r x y out = (res, 0) → ∃ x y, ScI w h x y res) (he : actR k w h n d r x y out = (res, 0)) : ∃ x y, ScI w h x y res := by
  obtain ⟨h1, h2, h3, ⟨⟨h4, h5⟩, h6, h7⟩, h8⟩ := hi
  unfold actR at he
  unfold coordM at *
  split at he
  · exact hk x y out ⟨h1, h2, h3, ⟨⟨h4, h5⟩, h6, h7⟩, h8⟩ he
  split at he
  · injection he with he _
    subst he
    exact ⟨x, y, h1, h2, h3, ⟨⟨h4, h5⟩, h6, h7⟩, h8⟩
  split at he
  · refine hk _ _ _ ⟨h1, h2, fun c hc => ?_, ⟨⟨Int.le_refl _, by decide⟩, by omega, by unfold coordM; omega⟩, h8⟩ he
    have g1 := h2 c hc
    rcases h3 c hc with g | ⟨g, _⟩ <;> omega
  split at he
  · refine hk _ _ _ ⟨h1, h2, fun c hc => ?_, ⟨⟨by omega, by unfold coordM; omega⟩, h6, by unfold coordM; omega⟩, h8⟩ he
    rcases h3 c hc with g | ⟨g, g2⟩
    · exact .inl g
    · exact .inr ⟨g, by omega⟩
  split at he
  · split at he
    · injection he with _ he; cases he
    · rename_i hc1
      split at he
      · injection he with _ he; cases he
      · rename_i hc2
        obtain ⟨r1, r2⟩ := rowC_sorted x y n
        refine hk _ _ _ ⟨?_, fun c hc => ?_, fun c hc => ?_, ⟨⟨by omega, by unfold coordM; omega⟩, h6, by unfold coordM; omega⟩, by rw [List.length_append, rowC_len]; omega⟩ he
        · rw [List.pairwise_append]
          refine ⟨h1, r1, fun a ha b hb => ?_⟩
          have := r2 b hb
          rcases h3 a ha with g | ⟨g, g2⟩
          · exact .inl (by omega)
          · exact .inr ⟨by omega, by omega⟩
        · rw [List.mem_append] at hc
          rcases hc with hc | hc
          · exact h2 c hc
          · have := r2 c hc; omega
        · rw [List.mem_append] at hc
          rcases hc with hc | hc
          · rcases h3 c hc with g | ⟨g, g2⟩
            · exact .inl g
            · exact .inr ⟨g, by omega⟩
          · have := r2 c hc
            exact .inr ⟨this.2, by omega⟩
  · injection he with _ he; cases he
theorem scan_sorted {w h : Int} (hw : w ≤ 1000000000000) (hh : h ≤ 1000000000000) {res : List (Int × Int)} : ∀ (f : Nat) (s : List UInt8) (x y : Int) (out : List (Int × Int)), ScI w h x y out → scanF w h f s x y out = (res, 0) → ∃ x y, ScI w h x y res
  | 0, s, x, y, out, _, he => by injection he with _ he; cases he
  | f + 1, [], x, y, out, _, he => by injection he with _ he; cases he
  | f + 1, c :: s, x, y, out, hi, he => by
    rw [scanF] at he
    split at he
    · split at he
      · injection he with _ he; cases he
      · rename_i hc
        generalize (rnum (c :: s)).2.1 = t at he
        cases t with
        | nil => injection he with _ he; cases he
        | cons d r =>
          dsimp only at he
          split at he
          · exact act_sorted hw hh (fun h0 => hc (.inr h0)) hi (fun x y out => scan_sorted hw hh f r x y out) he
          · injection he with _ he; cases he
    · exact act_sorted hw hh (by decide) hi (fun x y out => scan_sorted hw hh f s x y out) he
/-- What a text that is read says. -/
structure DecI (l : List (Int × Int)) : Prop where
  sort : l.Pairwise ltR
  fits : ∀ c ∈ l, (0 ≤ c.1 ∧ c.1 < 999999999999) ∧ (0 ≤ c.2 ∧ c.2 < 999999999999)
  few : l.length ≤ 4096
theorem head_in {rd : List UInt8 → Int × Int × Int} {s : List UInt8} (h : (headR rd s).2.2.2 = true) : ((headR rd s).1 < 1000000000000 ∧ (headR rd s).2.1 < 1000000000000) ∧ ((headR rd s).2.2.1 = (8, 12) ∨ ∃ t, (rd t).2.2 = 0 ∧ (headR rd s).2.2.1 = ((rd t).1, (rd t).2.1)) := by
  unfold headR at h ⊢
  dsimp only at h ⊢
  split at h
  · cases h
  · rename_i hc
    rw [if_neg hc]
    have hb : ∀ b : Bool, ¬ b = false → b = true := fun b => by cases b <;> simp
    have n1 := rnum_lt (s := trimPrefix s [120, 32, 61, 32]) (hb _ fun e => hc (.inr (.inl e)))
    have n2 := rnum_lt (s := trimPrefix (rnum (trimPrefix s [120, 32, 61, 32])).2.1 [44, 32, 121, 32, 61, 32]) (hb _ fun e => hc (.inr (.inr (.inr e))))
    split at h
    · rename_i hr
      rw [if_pos hr]
      exact ⟨⟨n1, n2⟩, .inl rfl⟩
    · rename_i hr
      rw [if_neg hr]
      dsimp only at h ⊢
      rw [Bool.and_eq_true] at h
      exact ⟨⟨n1, n2⟩, .inr ⟨_, of_decide_eq_true h.2, rfl⟩⟩
theorem dec_in {rd : List UInt8 → Int × Int × Int} {s : List UInt8} {l : List (Int × Int)} {r : Int × Int} (h : decodeR rd s = (l, r, 0)) : DecI l ∧ (r = (8, 12) ∨ ∃ t, (rd t).2.2 = 0 ∧ r = ((rd t).1, (rd t).2.1)) := by
  unfold decodeR at h
  split at h
  · injection h with _ h; injection h with _ h; cases h
  · dsimp only at h
    split at h
    · injection h with _ h; injection h with _ h; cases h
    · rename_i hc
      have hgood : (headR rd (cutNl (skipC s.length s)).1).2.2.2 = true := by
        cases hg : (headR rd (cutNl (skipC s.length s)).1).2.2.2
        · exact absurd (.inr hg) hc
        · rfl
      obtain ⟨⟨hw, hh⟩, hr⟩ := head_in hgood
      generalize headR rd (cutNl (skipC s.length s)).1 = hd at *
      generalize hq : scanR hd.1 hd.2.1 (cutNl (skipC s.length s)).2.1 0 0 [] = q at h
      split at h
      · rename_i h0
        injection h with h1 h
        injection h with h2 _
        obtain ⟨q1, q2⟩ := q
        dsimp only at h0 h1
        subst h0 h1 h2
        unfold scanR at hq
        obtain ⟨x, y, hi⟩ := scan_sorted (by omega) (by omega) _ _ _ _ _ ⟨List.Pairwise.nil, fun c hc => by simp at hc, fun c hc => by simp at hc, ⟨⟨Int.le_refl _, by decide⟩, Int.le_refl _, by decide⟩, by simp⟩ hq
        exact ⟨⟨hi.sort, fun c hc => by have := hi.fits c hc; omega, hi.few⟩, hr⟩
      · rename_i h0
        injection h with _ h
        injection h with _ h
        exact absurd h h0
theorem dec_err {rd : List UInt8 → Int × Int × Int} {s : List UInt8} {l : List (Int × Int)} {r : Int × Int} {e : Int} (h : decodeR rd s = (l, r, e)) (he : e ≠ 0) : l = [] ∧ r = (0, 0) := by
  unfold decodeR at h
  split at h
  · injection h with h1 h; injection h with h2 _; exact ⟨h1.symm, h2.symm⟩
  · dsimp only at h
    split at h
    · injection h with h1 h; injection h with h2 _; exact ⟨h1.symm, h2.symm⟩
    · split at h
      · injection h with _ h; injection h with _ h; exact absurd h.symm he
      · injection h with h1 h; injection h with h2 _; exact ⟨h1.symm, h2.symm⟩
/-- Moved to the corner: the same text. -/
theorem enc_shift (l : List (Int × Int)) (X0 Y0 : Int) (W H : Nat) (t : List UInt8) : encT (l.map fun c => (c.1 - X0, c.2 - Y0)) 0 0 W H t = encT l X0 Y0 W H t := by
  unfold encT
  have := pieces_shift X0 Y0 l.length X0 l X0 Y0
  rw [Int.sub_self, Int.sub_self] at this
  rw [List.length_map, this]

/-- Lines behind the first one are short; the last one ends. -/
def lineOK : List UInt8 → Nat → Bool → Prop
  | [], n, _ => n = 0
  | c :: s, n, first => if c = 10 then (first = true ∨ n + 1 ≤ 71) ∧ lineOK s 0 false else lineOK s (n + 1) first
theorem lineOK_plain : ∀ (p t : List UInt8) (n : Nat) (first : Bool), (10 : UInt8) ∉ p → (lineOK (p ++ t) n first ↔ lineOK t (n + p.length) first)
  | [], t, n, first, _ => by simp
  | c :: p, t, n, first, h => by
    have hc : c ≠ 10 := fun e => h (by simp [e])
    rw [List.cons_append, lineOK, if_neg hc, lineOK_plain p t (n + 1) first (fun hm => h (by simp [hm])), List.length_cons]
    rw [show n + 1 + p.length = n + (p.length + 1) by omega]
theorem piece_len {p : Nat × UInt8} (h : p.1 < 10000000000000) : (pieceP p).length ≤ 14 := by
  unfold pieceP
  rw [List.length_append, List.length_singleton]
  split
  · have := decD_len 12 p.1 (by omega); omega
  · simp
theorem piece_no {p : Nat × UInt8} (h : p.2 ≠ 10) : (10 : UInt8) ∉ pieceP p := by
  unfold pieceP
  rw [List.mem_append, not_or, List.mem_singleton]
  refine ⟨?_, fun e => h e.symm⟩
  split
  · exact dec_no _ 10 rfl
  · simp
theorem lines_body : ∀ (ps : List (Nat × UInt8)) (col : Nat), (∀ p ∈ ps, p.1 < 10000000000000 ∧ p.2 ≠ 10) → col ≤ 70 → lineOK (bodyT ps col ++ [10]) col false
  | [], col, _, hc => by
    show (if (10 : UInt8) = 10 then _ else _)
    rw [if_pos rfl]
    exact ⟨.inr (by omega), rfl⟩
  | p :: ps, col, hps, hc => by
    obtain ⟨h1, h2⟩ := hps p List.mem_cons_self
    have hl := piece_len h1
    have hno := piece_no h2
    have ih := fun c (hc : c ≤ 70) => lines_body ps c (fun q hq => hps q (List.mem_cons_of_mem _ hq)) hc
    rw [bodyT]
    split
    · exact ih col hc
    · split
      · rw [List.cons_append, lineOK, if_pos rfl]
        refine ⟨.inr (by omega), ?_⟩
        rw [List.append_assoc, lineOK_plain _ _ _ _ hno, Nat.zero_add]
        exact ih _ (by omega)
      · rw [List.append_assoc, lineOK_plain _ _ _ _ hno]
        exact ih _ (by omega)
theorem lines_enc (l : List (Int × Int)) (X0 Y0 : Int) (W H : Nat) (t : List UInt8) (hnl : (10 : UInt8) ∉ t) (hin : ∀ c ∈ l, (X0 ≤ c.1 ∧ c.1 - X0 < 9999999999999) ∧ (Y0 ≤ c.2 ∧ c.2 - Y0 < 9999999999999)) (hn : l.length < 9999999999999) : lineOK (encT l X0 Y0 W H t) 0 true := by
  unfold encT
  rw [lineOK_plain _ _ _ _ (headT_no W H t hnl), lineOK, if_pos rfl]
  refine ⟨.inl rfl, lines_body _ 0 (fun p hp => ?_) (by decide)⟩
  rw [List.mem_append, List.mem_singleton] at hp
  rcases hp with hp | rfl
  · have := pieces_fit l.length X0 Y0 l X0 Y0 9999999999999 (fun c hc => hin c hc) (Int.le_refl _) (Int.le_refl _) hn p hp
    refine ⟨by omega, ?_⟩
    rcases this.2 with e | e | e <;> rw [e] <;> decide
  · exact ⟨by decide, by decide⟩
end Go.Proofs.YtlcjadgaommfmaaDoor
