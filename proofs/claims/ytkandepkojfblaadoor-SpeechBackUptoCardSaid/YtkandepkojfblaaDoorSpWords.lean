/- speech: requests as texts, in plain words. -/
import Derived.Test.YtkandepkojfblaaDoorSpNum
namespace Go.Proofs.YtkandepkojfblaaDoor
open Go.Lib

/-- The words between blanks. -/
def splitB : List UInt8 → List (List UInt8)
  | [] => [[]]
  | c :: r => if c = 32 then [] :: splitB r else match splitB r with
    | [] => [[c]]
    | w :: ws => (c :: w) :: ws
def joinB : List (List UInt8) → List UInt8
  | [] => []
  | [w] => w
  | w :: v :: ws => w ++ 32 :: joinB (v :: ws)
theorem splitB_ne : ∀ l : List UInt8, splitB l ≠ []
  | [] => by simp [splitB]
  | c :: r => by
    rw [splitB]
    split
    · simp
    · split <;> simp
theorem join_split : ∀ l : List UInt8, joinB (splitB l) = l
  | [] => rfl
  | c :: r => by
    have ih := join_split r
    have hne := splitB_ne r
    rw [splitB]
    cases h : splitB r with
    | nil => exact absurd h hne
    | cons w ws =>
      rw [h] at ih
      by_cases hc : c = 32
      · rw [if_pos hc]
        show [] ++ 32 :: joinB (w :: ws) = _
        rw [ih, hc]; rfl
      · rw [if_neg hc]
        cases ws with
        | nil => simp only [joinB] at ih ⊢; rw [ih]
        | cons v ws => simp only [joinB] at ih ⊢; rw [List.cons_append, ih]
/-- What stands ahead of the first comma, and behind it. -/
def cutC : List UInt8 → Option (List UInt8 × List UInt8)
  | [] => none
  | c :: r => if c = 44 then some ([], r) else (cutC r).map fun p => (c :: p.1, p.2)
theorem cutC_eq : ∀ {l a b : List UInt8}, cutC l = some (a, b) → l = a ++ 44 :: b
  | [], a, b, h => by cases h
  | c :: r, a, b, h => by
    rw [cutC] at h
    split at h
    · rename_i hc
      injection h with h; injection h with h1 h2
      subst h1 h2; rw [hc]; rfl
    · cases hr : cutC r with
      | none => rw [hr] at h; cases h
      | some p =>
        rw [hr, Option.map_some] at h
        injection h with h; injection h with h1 h2
        subst h1 h2
        rw [List.cons_append, ← cutC_eq (l := r) (a := p.1) (b := p.2) hr]
/-- A cell of speech. -/
def cellW (w : List UInt8) : Option (Int × Int) := (cutC w).bind fun p => (numW p.1).bind fun a => (numW p.2).map fun b => (a, b)
def cellL (c : Int × Int) : List UInt8 := itoa c.1 ++ 44 :: itoa c.2
theorem cell_back {w : List UInt8} {c : Int × Int} (h : cellW w = some c) : cellL c = w := by
  unfold cellW at h
  cases hp : cutC w with
  | none => rw [hp] at h; cases h
  | some p =>
    rw [hp, Option.bind_some] at h
    cases ha : numW p.1 with
    | none => rw [ha] at h; cases h
    | some a =>
      rw [ha, Option.bind_some] at h
      cases hb : numW p.2 with
      | none => rw [hb] at h; cases h
      | some b =>
        rw [hb, Option.map_some] at h
        injection h with h
        subst h
        unfold cellL
        rw [num_back ha, num_back hb]
        exact (cutC_eq hp).symm
/-- All cells, or none. -/
def cellsW : List (List UInt8) → Option (List (Int × Int))
  | [] => some []
  | w :: ws => (cellW w).bind fun c => (cellsW ws).map fun l => c :: l
theorem cells_back : ∀ {ws : List (List UInt8)} {l : List (Int × Int)}, cellsW ws = some l → l.map cellL = ws
  | [], l, h => by simp only [cellsW] at h; injection h with h; subst h; rfl
  | w :: ws, l, h => by
    rw [cellsW] at h
    cases hc : cellW w with
    | none => rw [hc] at h; cases h
    | some c =>
      rw [hc, Option.bind_some] at h
      cases hr : cellsW ws with
      | none => rw [hr] at h; cases h
      | some r =>
        rw [hr, Option.map_some] at h
        injection h with h
        subst h
        rw [List.map_cons, cell_back hc, cells_back hr]
def lowC (c : UInt8) : Bool := decide (97 ≤ c.toNat ∧ c.toNat ≤ 122)
def digC (c : UInt8) : Bool := decide (48 ≤ c.toNat ∧ c.toNat ≤ 57)
def namedW (s : List UInt8) : Bool := s.all lowC && !s.isEmpty && decide (s.length ≤ 12)
def keyedW (s : List UInt8) : Bool := decide (2 ≤ s.length ∧ s.length ≤ 41) && decide (s.head? = some 33) && (s.drop 1).all fun c => lowC c || digC c
def placeW (s : List UInt8) : Bool := namedW s || keyedW s
/-- A request. -/
structure SReq where
  verb : Int
  name : List UInt8
  other : List UInt8
  b : Int
  l : Int
  n : Int
  cells : List (Int × Int)
def zeroR : SReq := ⟨0, [], [], 0, 0, 0, []⟩
section
-- how a rule is read (its error 0: it is one) and written
variable (rd : List UInt8 → Int × Int × Int) (tx : Int → Int → List UInt8)
/-- What stands behind a verb. -/
def bodyW (k : Int) (ws : List (List UInt8)) : Option SReq :=
  if k = 1 then match ws with
    | [a, r] => if namedW a = true ∧ (rd r).2.2 = 0 then some ⟨1, a, [], (rd r).1, (rd r).2.1, 0, []⟩ else none
    | _ => none
  else if k = 2 then match ws with
    | a :: cs => if placeW a = true then (cellsW cs).map fun l => ⟨2, a, [], 0, 0, 0, l⟩ else none
    | _ => none
  else if k = 3 ∨ k = 5 ∨ k = 6 then match ws with
    | [a] => if placeW a = true then some ⟨k, a, [], 0, 0, 0, []⟩ else none
    | _ => none
  else if k = 4 then match ws with
    | [a, m] => if placeW a = true then (numW m).map fun n => ⟨4, a, [], 0, 0, n, []⟩ else none
    | _ => none
  else if k = 7 then match ws with
    | [a] => if namedW a = true then some ⟨7, a, [], 0, 0, 0, []⟩ else none
    | _ => none
  else if k = 8 then match ws with
    | [a, o] => if placeW a = true ∧ namedW o = true then some ⟨8, a, o, 0, 0, 0, []⟩ else none
    | _ => none
  else if k = 9 then match ws with
    | [a, m] => if namedW a = true then (numW m).map fun n => ⟨9, a, [], 0, 0, n, []⟩ else none
    | _ => none
  else if k = 10 then match ws with
    | [] => some ⟨10, [], [], 0, 0, 0, []⟩
    | _ => none
  else none
/-- What is written behind a verb. -/
def tailW (q : SReq) : List UInt8 :=
  (if q.verb = 10 then [] else 32 :: q.name) ++
  (if q.verb = 1 then 32 :: tx q.b q.l
   else if q.verb = 2 then q.cells.flatMap fun c => 32 :: cellL c
   else if q.verb = 4 ∨ q.verb = 9 then 32 :: itoa q.n
   else if q.verb = 8 then 32 :: q.other else [])
def spacedB (ws : List (List UInt8)) : List UInt8 := ws.flatMap fun w => 32 :: w
theorem join_spaced : ∀ (v : List UInt8) (ws : List (List UInt8)), joinB (v :: ws) = v ++ spacedB ws
  | v, [] => by simp [joinB, spacedB]
  | v, w :: ws => by
    rw [joinB, join_spaced w ws]
    simp [spacedB]
theorem body_back (hrt : ∀ r b l, rd r = (b, l, 0) → tx b l = r) {k : Int} {ws : List (List UInt8)} {q : SReq} (h : bodyW rd k ws = some q) : q.verb = k ∧ (1 ≤ k ∧ k ≤ 10) ∧ tailW tx q = spacedB ws := by
  unfold bodyW at h
  split at h
  · rename_i hk; subst hk
    split at h
    · rename_i a r
      split at h
      · rename_i hc
        injection h with h
        subst h
        refine ⟨rfl, ⟨by decide, by decide⟩, ?_⟩
        simp [tailW, spacedB, hrt r (rd r).1 (rd r).2.1 (by rw [← hc.2])]
      · cases h
    · cases h
  split at h
  · rename_i hk; subst hk
    split at h
    · rename_i a cs
      split at h
      · cases hl : cellsW cs with
        | none => rw [hl] at h; cases h
        | some l =>
          rw [hl, Option.map_some] at h
          injection h with h
          subst h
          refine ⟨rfl, ⟨by decide, by decide⟩, ?_⟩
          rw [← cells_back hl]
          simp [tailW, spacedB, List.flatMap_map]
      · cases h
    · cases h
  split at h
  · rename_i hk
    split at h
    · split at h
      · injection h with h
        subst h
        refine ⟨rfl, by omega, ?_⟩
        rcases hk with rfl | rfl | rfl <;> simp [tailW, spacedB]
      · cases h
    · cases h
  split at h
  · rename_i hk; subst hk
    split at h
    · rename_i a m
      split at h
      · cases hl : numW m with
        | none => rw [hl] at h; cases h
        | some n =>
          rw [hl, Option.map_some] at h
          injection h with h
          subst h
          refine ⟨rfl, ⟨by decide, by decide⟩, ?_⟩
          simp [tailW, spacedB, num_back hl]
      · cases h
    · cases h
  split at h
  · rename_i hk; subst hk
    split at h
    · split at h
      · injection h with h
        subst h
        exact ⟨rfl, ⟨by decide, by decide⟩, by simp [tailW, spacedB]⟩
      · cases h
    · cases h
  split at h
  · rename_i hk; subst hk
    split at h
    · split at h
      · injection h with h
        subst h
        exact ⟨rfl, ⟨by decide, by decide⟩, by simp [tailW, spacedB]⟩
      · cases h
    · cases h
  split at h
  · rename_i hk; subst hk
    split at h
    · rename_i a m
      split at h
      · cases hl : numW m with
        | none => rw [hl] at h; cases h
        | some n =>
          rw [hl, Option.map_some] at h
          injection h with h
          subst h
          refine ⟨rfl, ⟨by decide, by decide⟩, ?_⟩
          simp [tailW, spacedB, num_back hl]
      · cases h
    · cases h
  split at h
  · rename_i hk; subst hk
    split at h
    · injection h with h
      subst h
      exact ⟨rfl, ⟨by decide, by decide⟩, by simp [tailW, spacedB]⟩
    · cases h
  · cases h
end
end Go.Proofs.YtkandepkojfblaaDoor
