/- ArenaAlone: one tenant alone, as a plain machine; and what many tenants in one arena have to do with it. -/
import Derived.Test.YtfoipadgicjcaaaAlone2
import Derived.Test.YtfoipadgicjcaaaRoomS
namespace Go.Proofs.Ytfoipadgicjcaaa
open Go.RowKit

inductive Match (P : Int → Tree → Prop) : List Int → List Tree → Prop
  | nil : Match P [] []
  | cons {i : Int} {x : Tree} {l : List Int} {l' : List Tree} : P i x → Match P l l' → Match P (i :: l) (x :: l')
section
variable {P Q : Int → Tree → Prop} {l : List Int} {l' : List Tree}
theorem Match.len (h : Match P l l') : l.length = l'.length := by
  induction h with
  | nil => rfl
  | cons _ _ ih => simp [ih]
theorem Match.at (h : Match P l l') : ∀ {k : Nat} {i : Int}, l[k]? = some i → ∃ x, l'[k]? = some x ∧ P i x := by
  induction h with
  | nil => intro k i hk; simp at hk
  | @cons j x l l' hp h ih =>
    intro k i hk
    cases k with
    | zero => simp at hk; subst hk; exact ⟨x, rfl, hp⟩
    | succ k => simp at hk; simpa using ih hk
theorem Match.mono (h : Match P l l') : (∀ i x, i ∈ l → x ∈ l' → P i x → Q i x) → Match Q l l' := by
  induction h with
  | nil => intro _; exact .nil
  | cons hp h ih => intro hm; exact .cons (hm _ _ (List.mem_cons_self ..) (List.mem_cons_self ..) hp) (ih fun i x hi hx => hm i x (List.mem_cons_of_mem _ hi) (List.mem_cons_of_mem _ hx))
theorem Match.snoc (h : Match P l l') {i : Int} {x : Tree} (hp : P i x) : Match P (l ++ [i]) (l' ++ [x]) := by
  induction h with
  | nil => exact .cons hp .nil
  | cons hq h ih => exact .cons hq ih
theorem Match.filter (h : Match P l l') {p : Int → Bool} {q : Tree → Bool} (hpq : ∀ i x, P i x → p i = q x) : Match P (l.filter p) (l'.filter q) := by
  induction h with
  | nil => exact .nil
  | cons hq h ih =>
    rw [List.filter_cons, List.filter_cons, hpq _ _ hq]
    split
    · exact .cons hq ih
    · exact ih
theorem Match.all (h : Match P l l') {p : Int → Prop} (hp : ∀ i x, P i x → p i) : ∀ i ∈ l, p i := by
  induction h with
  | nil => intro i hi; cases hi
  | cons hq h ih =>
    intro i hi
    rcases List.mem_cons.1 hi with rfl | hi
    · exact hp _ _ hq
    · exact ih i hi
end
/-- What one tenant has, was given since its mark, and made. -/
structure AS where
  ab : Abs
  made : List Tree
def AS.none : AS := ⟨⟨[], []⟩, []⟩
def aPick (l : List Tree) (n : Int) : Tree :=
  if n % ((l.length : Int) + 2) = 0 then .dead else if n % ((l.length : Int) + 2) = 1 then .alive else l.getD (n % ((l.length : Int) + 2) - 2).toNat .dead
def aJoin (s : AS) (a b c d : Tree) : AS × Int :=
  if b.lvl = a.lvl ∧ c.lvl = a.lvl ∧ d.lvl = a.lvl ∧ a.lvl < 44 then
    (⟨(aGive s.ab 30 (.sq a b c d)).2, if (aGive s.ab 30 (.sq a b c d)).1 = 0 then s.made ++ [.node a b c d] else s.made⟩, (aGive s.ab 30 (.sq a b c d)).1)
  else (s, 8)
def aNote (s : AS) (t : Nat) (x : Tree) (j : Int) : AS × Int := (⟨(aGive s.ab 30 (.note x t j)).2, s.made⟩, (aGive s.ab 30 (.note x t j)).1)
def aKeep (s : AS) (l : List Thing) : AS := ⟨⟨l, []⟩, s.made.filter (hasT l)⟩
def aUndo (s : AS) : AS × Int := (aKeep s (restL s.ab), (s.ab.have_.length : Int) - ((restL s.ab).length : Int))
def aClean (s : AS) (x : Tree) : AS × Int := (aKeep s (s.ab.have_.filter (keepT x)), (s.ab.have_.length : Int) - ((s.ab.have_.filter (keepT x)).length : Int))
def aStepK (s : AS) (t : Nat) (k a0 a1 a2 a3 : Int) : AS × Int :=
  if k = 1 then aJoin s (aPick s.made a0) (aPick s.made a1) (aPick s.made a2) (aPick s.made a3)
  else if k = 2 then aNote s t (aPick s.made a0) (a1 % 3)
  else if k = 3 then (⟨⟨s.ab.have_, []⟩, s.made⟩, -1)
  else if k = 4 then aUndo s
  else if k = 5 then aClean s (aPick s.made a0)
  else if k = 6 then (s, if Thing.note (aPick s.made a0) t (a1 % 3) ∈ s.ab.have_ then 1 else -1)
  else (s, -1)
def aStep (s : AS) (t : Nat) (d : DeedD) : AS × Int := aStepK s t d.kind d.a0 d.a1 d.a2 d.a3
/-- Where one tenant is behind i deeds, and what it was told. -/
def aState (f : Nat → DeedD) (t : Nat) : Nat → AS × List Int
  | 0 => (AS.none, [])
  | i + 1 => if (f i).tenant % 4 = (t : Int) then
      ((aStep (aState f t i).1 t (f i)).1, (aState f t i).2 ++ [(f i).kind, (aStep (aState f t i).1 t (f i)).2, ((aStep (aState f t i).1 t (f i)).1.ab.have_.length : Int)])
    else aState f t i

/-- An arena and what its tenants are, each for itself. -/
structure RelP (S : ArS) (M : Nat → List Int) (T : Nat → AS) (g : Nat) : Prop where
  rel : ∃ A, Rel S A ∧ ∀ t, t < 4 → A t = (T t).ab
  made : ∀ t, t < 4 → Match (Den S) (M t) (T t).made
  has : ∀ t, t < 4 → ∀ x ∈ (T t).made, hasT (T t).ab.have_ x = true
  quota : ∀ t, t < 4 → S.quota t = 30
  room : S.room = 200000
  live : S.live ≤ (g : Int) + 1
section
variable {S S' : ArS} {M : Nat → List Int} {T : Nat → AS} {g t : Nat}
theorem Den.rng (hI : Inv S) {x : Tree} {id : Int} (h : Den S id x) : i64r id := by
  cases x with
  | dead => simp only [Den] at h; subst h; exact ⟨by decide, by decide⟩
  | alive => simp only [Den] at h; subst h; exact ⟨by decide, by decide⟩
  | node a b c d =>
    simp only [Den] at h
    obtain ⟨i, e, rfl, h2, _⟩ := h
    have := (List.getElem?_eq_some_iff.1 h2).1
    have := hI.lenN
    exact ⟨by omega, by omega⟩
theorem RelP.pick (h : RelP S M T g) (ht : t < 4) (n : Int) : Den S (pickId (M t) n) (aPick (T t).made n) ∧ hasT (T t).ab.have_ (aPick (T t).made n) = true := by
  have hm := h.made t ht
  have hl := hm.len
  unfold pickId aPick
  rw [hl]
  have h0 := Int.emod_nonneg n (show (((T t).made.length : Int) + 2) ≠ 0 by omega)
  have h1 := Int.emod_lt_of_pos n (show 0 < ((T t).made.length : Int) + 2 by omega)
  generalize n % (((T t).made.length : Int) + 2) = m at *
  by_cases z : m = 0
  · rw [if_pos z, if_pos (by omega)]
    exact ⟨by simp only [Den]; exact z, rfl⟩
  · by_cases o : m = 1
    · rw [if_neg z, if_pos o, if_pos (by omega)]
      exact ⟨by simp only [Den]; exact o, rfl⟩
    · rw [if_neg z, if_neg o, if_neg (by omega)]
      have hk : (m - 2).toNat < (M t).length := by omega
      obtain ⟨x, hx, hp⟩ := hm.at (List.getElem?_eq_getElem hk)
      rw [List.getD_eq_getElem?_getD, List.getD_eq_getElem?_getD, List.getElem?_eq_getElem hk, hx]
      exact ⟨hp, h.has t ht x (List.mem_of_getElem? hx)⟩
/-- One tenant's deed: others' trees stay. -/
theorem RelP.next (h : RelP S M T g) (ht : t < 4) {A' : Nat → Abs} {s' : AS} {m' : List Int} {g' : Nat} (hr : ∀ A, Rel S A → (∀ t, t < 4 → A t = (T t).ab) → Rel S' (upd A t s'.ab)) (hst : ∀ u, u < 4 → ∀ x id, hasT (T u).ab.have_ x = true → Den S id x → Den S' id x)
    (hm : Match (Den S') m' s'.made) (hh : ∀ x ∈ s'.made, hasT s'.ab.have_ x = true) (hq : S'.quota = S.quota) (hro : S'.room = S.room) (hl : S'.live ≤ (g' : Int) + 1) : RelP S' (upd M t m') (upd T t s') g' := by
  obtain ⟨A, hA, hAT⟩ := h.rel
  refine ⟨⟨_, hr A hA hAT, fun u hu => ?_⟩, fun u hu => ?_, fun u hu => ?_, fun u hu => by rw [hq]; exact h.quota u hu, hro.trans h.room, hl⟩
  · by_cases hut : u = t
    · subst hut; rw [upd_same, upd_same]
    · rw [upd_ne _ _ hut, upd_ne _ _ hut]; exact hAT u hu
  · by_cases hut : u = t
    · subst hut; rw [upd_same, upd_same]; exact hm
    · rw [upd_ne _ _ hut, upd_ne _ _ hut]
      exact (h.made u hu).mono fun i x _ hx hd => hst u hu x i (h.has u hu x hx) hd
  · by_cases hut : u = t
    · subst hut; rw [upd_same]; exact hh
    · rw [upd_ne _ _ hut]; exact h.has u hu
theorem upd_id {α : Type} (f : Nat → α) (t : Nat) : upd f t (f t) = f := by
  funext u
  by_cases hu : u = t
  · subst hu; rw [upd_same]
  · rw [upd_ne _ _ hu]
theorem RelP.more (h : RelP S M T g) : RelP S M T (g + 1) := ⟨h.rel, h.made, h.has, h.quota, h.room, by have := h.live; omega⟩
theorem aGive_mono {B : Abs} {q : Int} {x : Thing} : ∀ y ∈ B.have_, y ∈ (aGive B q x).2.have_ := by
  intro y hy
  unfold aGive
  split
  · exact hy
  · split
    · exact hy
    · exact List.mem_append_left _ hy
theorem aGive_has {B : Abs} {q : Int} {x : Thing} (h : (aGive B q x).1 = 0) : x ∈ (aGive B q x).2.have_ := by
  unfold aGive at h ⊢
  split
  · assumption
  · rename_i hn
    rw [if_neg hn] at h
    split
    · rename_i hq; rw [if_pos hq] at h; cases h
    · exact List.mem_append_right _ (List.mem_singleton.2 rfl)
theorem RelP.join (h : RelP S M T g) (ht : t < 4) (hg : g ≤ 1000) {a b c d : Tree} {q0 q1 q2 q3 r x : Int} (d0 : Den S q0 a) (d1 : Den S q1 b) (d2 : Den S q2 c) (d3 : Den S q3 d)
    (h0 : hasT (T t).ab.have_ a = true) (h1 : hasT (T t).ab.have_ b = true) (h2 : hasT (T t).ab.have_ c = true) (h3 : hasT (T t).ab.have_ d = true) (hj : JoinR S t q0 q1 q2 q3 r x S') :
    x = (aJoin (T t) a b c d).2 ∧ RelP S' (upd M t (if x = 0 then M t ++ [r] else M t)) (upd T t (aJoin (T t) a b c d).1) (g + 1) ∧ (x = 0 → i64r r) := by
  obtain ⟨A, hA, hAT⟩ := h.rel
  have o0 : ownsB S t q0 0 = true := by rw [hA.owns (by omega) d0, hAT t ht]; exact h0
  have o1 : ownsB S t q1 0 = true := by rw [hA.owns (by omega) d1, hAT t ht]; exact h1
  have o2 : ownsB S t q2 0 = true := by rw [hA.owns (by omega) d2, hAT t ht]; exact h2
  have o3 : ownsB S t q3 0 = true := by rw [hA.owns (by omega) d3, hAT t ht]; exact h3
  have l0 := d0.level hA.inv
  have l1 := d1.level hA.inv
  have l2 := d2.level hA.inv
  have l3 := d3.level hA.inv
  have four : ∀ j, j < 4 → j = 0 ∨ j = 1 ∨ j = 2 ∨ j = 3 := fun j hj => by omega
  cases hj with
  | none j hj ho =>
    rcases four j hj with rfl | rfl | rfl | rfl
    · rw [show qAt q0 q1 q2 q3 0 = q0 from rfl, o0] at ho; cases ho
    · rw [show qAt q0 q1 q2 q3 1 = q1 from rfl, o1] at ho; cases ho
    · rw [show qAt q0 q1 q2 q3 2 = q2 from rfl, o2] at ho; cases ho
    · rw [show qAt q0 q1 q2 q3 3 = q3 from rfl, o3] at ho; cases ho
  | level j _ hj hl =>
    have hno : ¬ (b.lvl = a.lvl ∧ c.lvl = a.lvl ∧ d.lvl = a.lvl ∧ a.lvl < 44) := by
      rintro ⟨e1, e2, e3, e4⟩
      rcases hl with hl | hl
      · rcases four j hj with rfl | rfl | rfl | rfl
        · exact hl rfl
        · exact hl (show levelOf S q1 = levelOf S q0 by omega)
        · exact hl (show levelOf S q2 = levelOf S q0 by omega)
        · exact hl (show levelOf S q3 = levelOf S q0 by omega)
      · omega
    have e : aJoin (T t) a b c d = (T t, 8) := by unfold aJoin; rw [if_neg hno]
    rw [e, if_neg (by decide), upd_id, upd_id]
    exact ⟨rfl, h.more, fun e => by cases e⟩
  | gives r x S' ho hl hlt hgr =>
    have e1 : levelOf S q1 = levelOf S q0 := hl 1 (by decide)
    have e2 : levelOf S q2 = levelOf S q0 := hl 2 (by decide)
    have e3 : levelOf S q3 = levelOf S q0 := hl 3 (by decide)
    have hyes : b.lvl = a.lvl ∧ c.lvl = a.lvl ∧ d.lvl = a.lvl ∧ a.lvl < 44 := ⟨by omega, by omega, by omega, by omega⟩
    have e : aJoin (T t) a b c d = (⟨(aGive (T t).ab 30 (.sq a b c d)).2, if (aGive (T t).ab 30 (.sq a b c d)).1 = 0 then (T t).made ++ [.node a b c d] else (T t).made⟩, (aGive (T t).ab 30 (.sq a b c d)).1) := by unfold aJoin; rw [if_pos hyes]
    rw [e]
    have hl0 := a.lvl_pos
    have hok : (⟨0, q0, q1, q2, q3⟩ : KeyA).ok := ⟨⟨by show (-9223372036854775808 : Int) ≤ 0; decide, by show (0 : Int) ≤ 9223372036854775807; decide⟩, d0.rng hA.inv, d1.rng hA.inv, d2.rng hA.inv, d3.rng hA.inv⟩
    have hroom : S.live < S.room := by have := h.live; rw [h.room]; omega
    have hgv : ∀ A, Rel S A → (∀ t, t < 4 → A t = (T t).ab) → x = (aGive (T t).ab 30 (.sq a b c d)).1 ∧ Rel S' (upd A t (aGive (T t).ab 30 (.sq a b c d)).2) ∧ Stays (fun _ => True) S S' ∧ (x = 0 → ∃ i : Nat, r = i ∧ DenT S' i (.sq a b c d)) ∧ S'.quota = S.quota ∧ S'.room = S.room ∧ S'.live ≤ S.live + 1 := by
      intro A hA hAT
      have := hA.give (t := t) (by omega) (x := .sq a b c d) hok (by omega) hroom ⟨rfl, by omega, d0, d1, d2, d3⟩ (fun e => by cases e) ⟨by rw [hAT t ht]; exact h0, by rw [hAT t ht]; exact h1, by rw [hAT t ht]; exact h2, by rw [hAT t ht]; exact h3⟩ hgr
      rw [hAT t ht, h.quota t ht] at this
      exact this
    obtain ⟨g1, g2, g3, g4, g5, g6, g7⟩ := hgv A hA hAT
    refine ⟨g1, h.next (A' := A) ht (fun A hA hAT => (hgv A hA hAT).2.1) (fun u hu x id _ hd => Den.stays g3 hd) ?_ ?_ g5 g6 (by have := h.live; omega), fun hx => ?_⟩
    · have hm := (h.made t ht).mono (Q := Den S') fun i x _ _ hd => Den.stays g3 hd
      by_cases hx : x = 0
      · rw [if_pos hx]
        simp only
        rw [if_pos (g1 ▸ hx)]
        obtain ⟨i, rfl, hd⟩ := g4 hx
        exact hm.snoc hd
      · rw [if_neg hx]
        simp only
        rw [if_neg (g1 ▸ hx)]
        exact hm
    · intro y hy
      simp only at hy ⊢
      by_cases hx : (aGive (T t).ab 30 (.sq a b c d)).1 = 0
      · rw [if_pos hx] at hy
        rcases List.mem_append.1 hy with hy | hy
        · exact hasT.mono aGive_mono (h.has t ht y hy)
        · rw [List.mem_singleton.1 hy]; exact decide_eq_true (aGive_has hx)
      · rw [if_neg hx] at hy
        exact hasT.mono aGive_mono (h.has t ht y hy)
    · obtain ⟨i, rfl, hd⟩ := g4 hx
      exact Den.rng g2.inv (x := .node a b c d) hd
theorem RelP.note (h : RelP S M T g) (ht : t < 4) (hg : g ≤ 1000) {a : Tree} {s j x : Int} (hj64 : i64r j) (d0 : Den S s a) (h0 : hasT (T t).ab.have_ a = true) (hn : NoteR S t s t j s x S') :
    x = (aNote (T t) t a j).2 ∧ RelP S' M (upd T t (aNote (T t) t a j).1) (g + 1) := by
  obtain ⟨A, hA, hAT⟩ := h.rel
  have o0 : ownsB S t s 0 = true := by rw [hA.owns (by omega) d0, hAT t ht]; exact h0
  have ht64 : i64r (t : Int) := ⟨by omega, by omega⟩
  cases hn with
  | none ho =>
    rcases ho with ho | ho <;> · rw [o0] at ho; cases ho
  | twice i e _ _ hi he hv =>
    have hek := hA.inv.idx_of he hi
    have := (hA.good i e he (hek ▸ hi)).2 (by rw [hek]; rfl)
    rw [hek] at this
    exact absurd this hv
  | gives id x S' _ _ _ hgr =>
    have hok : (noteK s t j).ok := noteK_ok (d0.rng hA.inv) ht64 hj64
    have hroom : S.live < S.room := by have := h.live; rw [h.room]; omega
    have hgv : ∀ A, Rel S A → (∀ t, t < 4 → A t = (T t).ab) → x = (aGive (T t).ab 30 (.note a t j)).1 ∧ Rel S' (upd A t (aGive (T t).ab 30 (.note a t j)).2) ∧ Stays (fun _ => True) S S' ∧ (x = 0 → ∃ i : Nat, id = i ∧ DenT S' i (.note a t j)) ∧ S'.quota = S.quota ∧ S'.room = S.room ∧ S'.live ≤ S.live + 1 := by
      intro A hA hAT
      have := hA.give (t := t) (by omega) (x := .note a t j) hok (by decide) hroom ⟨rfl, rfl, rfl, rfl, d0⟩ (fun _ => rfl) (by show hasT (A t).have_ a = true; rw [hAT t ht]; exact h0) hgr
      rw [hAT t ht, h.quota t ht] at this
      exact this
    obtain ⟨g1, g2, g3, g4, g5, g6, g7⟩ := hgv A hA hAT
    have hm := (h.made t ht).mono (Q := Den S') fun i x _ _ hd => Den.stays g3 hd
    have := h.next (A' := A) (s' := (aNote (T t) t a j).1) (m' := M t) (g' := g + 1) ht (fun A hA hAT => (hgv A hA hAT).2.1) (fun u hu x id _ hd => Den.stays g3 hd) hm (fun y hy => hasT.mono aGive_mono (h.has t ht y hy)) g5 g6 (by have := h.live; omega)
    rw [upd_id] at this
    exact ⟨g1, this⟩
/-- Behind Undo and Clean: what is still there. -/
theorem RelP.keep (h : RelP S M T g) (ht : t < 4) {l : List Thing} (hr : ∀ A, Rel S A → (∀ t, t < 4 → A t = (T t).ab) → Rel S' (upd A t ⟨l, []⟩)) (tw : Twin S S') (hq : S'.quota = S.quota) (hro : S'.room = S.room) (hl : S'.live ≤ S.live) :
    RelP S' (upd M t ((M t).filter fun id => ownsB S' t id 0)) (upd T t (aKeep (T t) l)) (g + 1) ∧ S.count t - S'.count t = ((T t).ab.have_.length : Int) - (l.length : Int) := by
  obtain ⟨A, hA, hAT⟩ := h.rel
  have hA' := hr A hA hAT
  have hm := (h.made t ht).mono (Q := Den S') fun i x _ _ hd => tw.den.2 hd
  refine ⟨h.next (A' := A) (s' := aKeep (T t) l) ht hr (fun u hu x id _ hd => tw.den.2 hd) (hm.filter fun i x hd => ?_) (fun x hx => (List.mem_filter.1 hx).2) hq hro (by have := h.live; omega), ?_⟩
  · rw [hA'.owns (by omega) hd, upd_same]
  · rw [hA.count (by omega), hA'.count (by omega), hAT t ht, upd_same]
theorem RelP.undo (h : RelP S M T g) (ht : t < 4) : RelP (undoS S t) (upd M t ((M t).filter fun id => ownsB (undoS S t) t id 0)) (upd T t (aUndo (T t)).1) (g + 1) ∧ S.count t - (undoS S t).count t = (aUndo (T t)).2 := by
  have hle := loseL_less t (S.added t) S
  refine h.keep ht (fun A hA hAT => ?_) ?_ hle.quota hle.room (Int.le_of_eq hle.live)
  · have := (hA.undo (t := t) (by omega)).1
    rw [hAT t ht] at this; exact this
  · obtain ⟨A, hA, _⟩ := h.rel
    exact (hA.undo (by omega)).2
theorem RelP.clean (h : RelP S M T g) (ht : t < 4) {a : Tree} {id : Int} (d0 : Den S id a) (h0 : hasT (T t).ab.have_ a = true) (hc : CleanR S t [id] S') : RelP S' (upd M t ((M t).filter fun id => ownsB S' t id 0)) (upd T t (aClean (T t) a).1) (g + 1) ∧ S.count t - S'.count t = (aClean (T t) a).2 := by
  obtain ⟨A, hA, hAT⟩ := h.rel
  obtain ⟨c1, c2, c3, c4, c5⟩ := hA.clean (t := t) (by omega) d0 (by rw [hAT t ht]; exact h0) hc
  refine h.keep ht (fun A hA hAT => ?_) c2 c3 c4 (Int.le_of_eq c5)
  have := (hA.clean (t := t) (by omega) d0 (by rw [hAT t ht]; exact h0) hc).1
  rw [hAT t ht] at this; exact this
theorem RelP.mark (h : RelP S M T g) (ht : t < 4) : RelP { S with added := upd S.added t [] } M (upd T t ⟨⟨(T t).ab.have_, []⟩, (T t).made⟩) (g + 1) := by
  obtain ⟨A, hA, _⟩ := h.rel
  have tw := (hA.mark (t := t) (by omega)).2
  have := h.next (A' := A) (s' := ⟨⟨(T t).ab.have_, []⟩, (T t).made⟩) (m' := M t) (g' := g + 1) ht (fun A hA hAT => by
    have := (hA.mark (t := t) (by omega)).1
    rw [hAT t ht] at this; exact this) (fun u hu x id _ hd => tw.den.2 hd) ((h.made t ht).mono fun i x _ _ hd => tw.den.2 hd) (h.has t ht) rfl rfl (by have := h.live; show S.live ≤ _; omega)
  rw [upd_id] at this; exact this
theorem RelP.sweep (h : RelP S M T g) {n : Nat} (hs : SweepR S S' n) : RelP S' M T (g + 1) := by
  obtain ⟨A, hA, hAT⟩ := h.rel
  obtain ⟨c1, c2, c3, c4, c5⟩ := hA.sweep hs
  refine ⟨⟨A, c1, hAT⟩, fun u hu => (h.made u hu).mono fun i x _ hx hd => ?_, h.has, fun u hu => by rw [c3]; exact h.quota u hu, c4.trans h.room, by have := h.live; omega⟩
  refine Den.staysO hA.inv c2 (hA.ok u (by omega)).closed (fun y hy => ?_) (by rw [hAT u hu]; exact h.has u hu x hx) hd
  obtain ⟨i, e, q1, q2, q3⟩ := (hA.own u (by omega) y).1 hy
  exact ⟨i, e, q1, testBit_ne q2, q3⟩
theorem RelP.count (h : RelP S M T g) (ht : t < 4) : S.count t = ((T t).ab.have_.length : Int) := by
  obtain ⟨A, hA, hAT⟩ := h.rel
  rw [hA.count (by omega), hAT t ht]
theorem RelP.inv (h : RelP S M T g) : Inv S ∧ S.live = S.size := by obtain ⟨A, hA, _⟩ := h.rel; exact ⟨hA.inv, hA.live⟩
theorem RelP.mrng (h : RelP S M T g) (ht : t < 4) : ∀ x ∈ M t, i64r x := (h.made t ht).all fun _ _ hd => Den.rng h.inv.1 hd
/-- What Recall finds. -/
theorem RelP.recall (h : RelP S M T g) (ht : t < 4) {a : Tree} {s j : Int} (d0 : Den S s a) : (∃ (i : Nat), S.idx (noteK s t j) = some (i : Int) ∧ ownsB S t i 1 = true) ↔ Thing.note a t j ∈ (T t).ab.have_ := by
  obtain ⟨A, hA, hAT⟩ := h.rel
  have hk : KeyT S (noteK s t j) 0 (.note a t j) := ⟨rfl, rfl, rfl, rfl, d0⟩
  rw [← hAT t ht]
  constructor
  · rintro ⟨i, hi, ho⟩
    obtain ⟨i', e, q1, q2, q3, q4⟩ := hA.inv.idx _ _ hi
    have : i = i' := by omega
    subst this
    have e1 : entAt S (i : Int) = some e := by unfold entAt; rw [if_pos (by omega), Int.toNat_natCast]; exact q3
    unfold ownsB at ho
    rw [e1] at ho
    simp at ho
    obtain ⟨⟨y, hy⟩, _⟩ := hA.good i e q3 (q4 ▸ hi)
    have := KeyT.of hA.inv q3 q4 hk hy
    subst this
    exact (hA.own t (by omega) _).2 ⟨i, e, q3, ho.2, hy⟩
  · intro hm
    obtain ⟨i, e, q1, q2, q3⟩ := (hA.own t (by omega) _).1 hm
    obtain ⟨e', q4, q5, q6⟩ := hk.key q3
    rw [q1] at q4; cases q4
    refine ⟨i, q6, ?_⟩
    have h2 := hA.inv.two q6
    have e1 : entAt S (i : Int) = some e := by unfold entAt; rw [if_pos (by omega), Int.toNat_natCast]; exact q1
    unfold ownsB
    rw [e1]
    simp [q5, q2, noteK]
end
end Go.Proofs.Ytfoipadgicjcaaa
