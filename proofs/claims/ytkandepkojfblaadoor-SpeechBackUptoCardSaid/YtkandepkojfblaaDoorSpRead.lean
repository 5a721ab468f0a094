/- speech: a line and its request, in plain words. -/
import Derived.Test.YtkandepkojfblaaDoorSpWords
namespace Go.Proofs.YtkandepkojfblaaDoor
open Go.Lib

/-- A verb's word. -/
def verbL (k : Int) : List UInt8 :=
  if k = 1 then [110, 101, 119] else if k = 2 then [115, 101, 116] else if k = 3 then [103, 101, 116] else if k = 4 then [115, 116, 101, 112] else if k = 5 then [99, 111, 117, 110, 116]
  else if k = 6 then [98, 111, 120] else if k = 7 then [100, 114, 111, 112] else if k = 8 then [99, 111, 112, 121] else if k = 9 then [108, 101, 97, 115, 101] else if k = 10 then [99, 108, 101, 97, 110] else []
/-- A word's verb; 0: none. -/
def verbN (w : List UInt8) : Int :=
  if w = [110, 101, 119] then 1 else if w = [115, 101, 116] then 2 else if w = [103, 101, 116] then 3 else if w = [115, 116, 101, 112] then 4 else if w = [99, 111, 117, 110, 116] then 5
  else if w = [98, 111, 120] then 6 else if w = [100, 114, 111, 112] then 7 else if w = [99, 111, 112, 121] then 8 else if w = [108, 101, 97, 115, 101] then 9 else if w = [99, 108, 101, 97, 110] then 10 else 0
theorem verb_back {w : List UInt8} (h : verbN w ≠ 0) : verbL (verbN w) = w := by
  unfold verbN at h ⊢
  repeat (split; · rename_i e; subst e; rfl)
  exact absurd (by simp_all) h
section
variable (rd : List UInt8 → Int × Int × Int) (tx : Int → Int → List UInt8)
/-- A line's request, and the error. -/
def readS (line : List UInt8) : SReq × Int :=
  if 6000 < line.length then (zeroR, 1)
  else match splitB line with
    | [] => (zeroR, 4)
    | v :: ws => if verbN v = 0 then (zeroR, 4) else match bodyW rd (verbN v) ws with
      | none => (zeroR, 2)
      | some q => (q, 0)
/-- A request's line, as it is made before it is read again. -/
def writeL (q : SReq) : List UInt8 := verbL q.verb ++ tailW tx q
theorem line_back (hrt : ∀ r b l, rd r = (b, l, 0) → tx b l = r) {line : List UInt8} {q : SReq} (h : readS rd line = (q, 0)) : (1 ≤ q.verb ∧ q.verb ≤ 10) ∧ writeL tx q = line := by
  unfold readS at h
  split at h
  · injection h with _ h; cases h
  · have hj := join_split line
    generalize splitB line = sp at h hj
    cases sp with
    | nil => injection h with _ h; cases h
    | cons v ws =>
      dsimp only at h
      split at h
      · injection h with _ h; cases h
      · rename_i hv
        cases hb : bodyW rd (verbN v) ws with
        | none => rw [hb] at h; injection h with _ h; cases h
        | some q' =>
          rw [hb] at h
          injection h with h _
          subst h
          obtain ⟨h1, h2, h3⟩ := body_back rd tx hrt hb
          unfold writeL
          rw [h1, h3, verb_back hv, ← join_spaced, hj]
          exact ⟨h2, rfl⟩
/-- speaks: 'step ab -7'. -/
theorem speaks_read : readS rd [115, 116, 101, 112, 32, 97, 98, 32, 45, 55] = (⟨4, [97, 98], [], 0, 0, -7, []⟩, 0) := by
  rfl
/-- Two requests are the same. -/
def sameQ (a b : SReq) : Prop := a.verb = b.verb ∧ a.name = b.name ∧ a.other = b.other ∧ (a.b = b.b ∧ a.l = b.l) ∧ a.n = b.n ∧ a.cells = b.cells
theorem sameQ_eq {a b : SReq} : sameQ a b ↔ a = b := by
  cases a; cases b
  simp only [sameQ, SReq.mk.injEq]
  constructor
  · rintro ⟨h1, h2, h3, ⟨h4, h5⟩, h6, h7⟩; exact ⟨h1, h2, h3, h4, h5, h6, h7⟩
  · rintro ⟨h1, h2, h3, h4, h5, h6, h7⟩; exact ⟨h1, h2, h3, ⟨h4, h5⟩, h6, h7⟩
end
end Go.Proofs.YtkandepkojfblaaDoor
