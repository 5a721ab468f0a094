/- speech: what is taken of a line's words, verb by verb. -/
import Derived.Test.YtkandepkojfblaaDoorSpRule
import Derived.Test.YtkandepkojfblaaDoorSpCells
namespace Go.Proofs.YtkandepkojfblaaDoor
open Go.RowKit

/-- The request that was taken, where nothing was bad and no word is left. -/
def endS (bad : Bool) (rest : List (List UInt8)) (q : SReq) : SReq × Int := if bad = true ∨ rest ≠ [] then (zeroR, 2) else (q, 0)
theorem endS_bad (rest : List (List UInt8)) (q : SReq) : endS true rest q = (zeroR, 2) := if_pos (.inl rfl)
theorem endS_rest (bad : Bool) (a : List UInt8) (r : List (List UInt8)) (q : SReq) : endS bad (a :: r) q = (zeroR, 2) := if_pos (.inr (List.cons_ne_nil _ _))
theorem endS_ok (q : SReq) : endS false [] q = (q, 0) := if_neg (by simp)
/-- A line's answer out of what stands behind its verb. -/
def ofBody (x : Option SReq) : SReq × Int := match x with
  | none => (zeroR, 2)
  | some q => (q, 0)
def hd (ws : List (List UInt8)) : List UInt8 := ws.headD []
theorem namedW_nil : namedW [] = false := rfl
theorem placeW_nil : placeW [] = false := rfl
theorem readR_nil : (readR []).2.2 = 2 := rfl
theorem numW_nil : numW [] = none := rfl
theorem body_new (ws : List (List UInt8)) : ofBody (bodyW readR 1 ws) = endS ((false || !namedW (hd ws)) || !decide ((readR (hd ws.tail)).2.2 = 0)) ws.tail.tail ⟨1, hd ws, [], (readR (hd ws.tail)).1, (readR (hd ws.tail)).2.1, 0, []⟩ := by
  unfold bodyW
  rw [if_pos rfl]
  match ws with
  | [] => rfl
  | [a] => simp [hd, readR_nil, ofBody, endS]
  | [a, r] =>
    simp only [hd, List.headD_cons, List.tail_cons]
    cases namedW a
    · simp [ofBody, endS]
    · by_cases h : (readR r).2.2 = 0
      · simp [h, ofBody, endS]
      · simp [h, ofBody, endS]
  | a :: r :: x :: l => simp [hd, ofBody, endS]
theorem body_get {k : Int} (hk : k = 3 ∨ k = 5 ∨ k = 6) (ws : List (List UInt8)) : ofBody (bodyW readR k ws) = endS (false || !placeW (hd ws)) ws.tail ⟨k, hd ws, [], 0, 0, 0, []⟩ := by
  unfold bodyW
  rw [if_neg (by omega), if_neg (by omega), if_pos hk]
  match ws with
  | [] => rfl
  | [a] =>
    simp only [hd, List.headD_cons, List.tail_cons]
    cases placeW a
    · simp [ofBody, endS]
    · simp [ofBody, endS]
  | a :: x :: l => simp [hd, ofBody, endS]
theorem body_step (ws : List (List UInt8)) : ofBody (bodyW readR 4 ws) = endS ((false || !placeW (hd ws)) || !(numW (hd ws.tail)).isSome) ws.tail.tail ⟨4, hd ws, [], 0, 0, (numW (hd ws.tail)).getD 0, []⟩ := by
  unfold bodyW
  rw [if_neg (by omega), if_neg (by omega), if_neg (by omega), if_pos rfl]
  match ws with
  | [] => rfl
  | [a] => simp [hd, numW_nil, ofBody, endS]
  | [a, r] =>
    simp only [hd, List.headD_cons, List.tail_cons]
    cases placeW a
    · simp [ofBody, endS]
    · cases numW r with
      | none => simp [ofBody, endS]
      | some n => simp [ofBody, endS]
  | a :: r :: x :: l => simp [hd, ofBody, endS]
theorem body_drop (ws : List (List UInt8)) : ofBody (bodyW readR 7 ws) = endS (false || !namedW (hd ws)) ws.tail ⟨7, hd ws, [], 0, 0, 0, []⟩ := by
  unfold bodyW
  rw [if_neg (by omega), if_neg (by omega), if_neg (by omega), if_neg (by omega), if_pos rfl]
  match ws with
  | [] => rfl
  | [a] =>
    simp only [hd, List.headD_cons, List.tail_cons]
    cases namedW a
    · simp [ofBody, endS]
    · simp [ofBody, endS]
  | a :: x :: l => simp [hd, ofBody, endS]
theorem body_copy (ws : List (List UInt8)) : ofBody (bodyW readR 8 ws) = endS ((false || !placeW (hd ws)) || !namedW (hd ws.tail)) ws.tail.tail ⟨8, hd ws, hd ws.tail, 0, 0, 0, []⟩ := by
  unfold bodyW
  rw [if_neg (by omega), if_neg (by omega), if_neg (by omega), if_neg (by omega), if_neg (by omega), if_pos rfl]
  match ws with
  | [] => rfl
  | [a] => simp [hd, namedW_nil, ofBody, endS]
  | [a, r] =>
    simp only [hd, List.headD_cons, List.tail_cons]
    cases placeW a
    · simp [ofBody, endS]
    · cases namedW r
      · simp [ofBody, endS]
      · simp [ofBody, endS]
  | a :: r :: x :: l => simp [hd, ofBody, endS]
theorem body_lease (ws : List (List UInt8)) : ofBody (bodyW readR 9 ws) = endS ((false || !namedW (hd ws)) || !(numW (hd ws.tail)).isSome) ws.tail.tail ⟨9, hd ws, [], 0, 0, (numW (hd ws.tail)).getD 0, []⟩ := by
  unfold bodyW
  rw [if_neg (by omega), if_neg (by omega), if_neg (by omega), if_neg (by omega), if_neg (by omega), if_neg (by omega), if_pos rfl]
  match ws with
  | [] => rfl
  | [a] => simp [hd, numW_nil, ofBody, endS]
  | [a, r] =>
    simp only [hd, List.headD_cons, List.tail_cons]
    cases namedW a
    · simp [ofBody, endS]
    · cases numW r with
      | none => simp [ofBody, endS]
      | some n => simp [ofBody, endS]
  | a :: r :: x :: l => simp [hd, ofBody, endS]
theorem body_clean (ws : List (List UInt8)) : ofBody (bodyW readR 10 ws) = endS false ws ⟨10, [], [], 0, 0, 0, []⟩ := by
  unfold bodyW
  rw [if_neg (by omega), if_neg (by omega), if_neg (by omega), if_neg (by omega), if_neg (by omega), if_neg (by omega), if_neg (by omega), if_pos rfl]
  match ws with
  | [] => rfl
  | a :: l => simp [ofBody, endS]
theorem body_set {ws : List (List UInt8)} {done : List (Int × Int)} {rest : List (List UInt8)} {bx : Bool} (h : CInv ws.tail (false || !placeW (hd ws)) done rest bx) (he : bx = true ∨ rest = []) :
    ofBody (bodyW readR 2 ws) = endS bx rest ⟨2, hd ws, [], 0, 0, 0, done⟩ := by
  unfold bodyW
  rw [if_neg (by omega), if_pos rfl]
  match ws with
  | [] =>
    have := h.hbad rfl
    subst this
    rw [endS_bad]; rfl
  | a :: l =>
    simp only [hd, List.headD_cons, List.tail_cons] at h ⊢
    cases hp : placeW a with
    | false =>
      have := h.hbad (by rw [hp]; rfl)
      subst this
      rw [endS_bad]; rfl
    | true =>
      rw [if_pos rfl]
      rcases h.ok (by rw [hp]; rfl) with ⟨h1, h2⟩ | ⟨h1, h2⟩
      · subst h1
        rcases he with he | he
        · cases he
        · subst he
          rw [endS_ok, h2]
          simp [cellsW, ofBody]
      · subst h1
        rw [endS_bad, h2]
        rfl
theorem readS_of {line : List UInt8} {v : List UInt8} {ws : List (List UInt8)} (hl : line.length ≤ 6000) (hs : splitB line = v :: ws) (hv : verbN v ≠ 0) : readS readR line = ofBody (bodyW readR (verbN v) ws) := by
  unfold readS
  rw [if_neg (by omega), hs]
  dsimp only
  rw [if_neg hv]
  cases bodyW readR (verbN v) ws with
  | none => rfl
  | some q => rfl
theorem readS_long {line : List UInt8} (hl : 6000 < line.length) : readS readR line = (zeroR, 1) := if_pos hl
theorem readS_kind {line : List UInt8} {v : List UInt8} {ws : List (List UInt8)} (hl : line.length ≤ 6000) (hs : splitB line = v :: ws) (hv : verbN v = 0) : readS readR line = (zeroR, 4) := by
  unfold readS
  rw [if_neg (by omega), hs]
  dsimp only
  rw [if_pos hv]
/-- The words of a line. -/
theorem splitB_bound : ∀ (l : List UInt8), (splitB l).length ≤ l.length + 1 ∧ ∀ x ∈ splitB l, x.length ≤ l.length
  | [] => by simp [splitB]
  | c :: r => by
    obtain ⟨h1, h2⟩ := splitB_bound r
    rw [splitB]
    split
    · refine ⟨by simp; omega, fun x hx => ?_⟩
      rw [List.mem_cons] at hx
      rcases hx with rfl | hx
      · simp
      · have := h2 x hx; simp; omega
    · cases h : splitB r with
      | nil => simp
      | cons w ws =>
        rw [h] at h1 h2
        refine ⟨by simpa using Nat.le_succ_of_le h1, fun x hx => ?_⟩
        rw [List.mem_cons] at hx
        rcases hx with rfl | hx
        · have := h2 w (by simp); simp; omega
        · have := h2 x (by simp [hx]); simp; omega
end Go.Proofs.YtkandepkojfblaaDoor
