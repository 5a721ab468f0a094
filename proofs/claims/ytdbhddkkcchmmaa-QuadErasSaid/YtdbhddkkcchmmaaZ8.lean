/- quad: the trees of sets of cells, in plain words. · quad: what a hand's work does to an arena, in plain words. · quad: a hand in memory; join. · quad: kids, level, done of a hand. · quad: level, empty, done, half. -/
import Derived.Deep.RegionHeld3
import Derived.IntWalk
import Derived.Test.YtdbhddkkcchmmaaZ4
import Derived.Test.YtdbhddkkcchmmaaZ3

namespace Go.Proofs.Ytdbhddkkcchmmaa
open Go.RowKit

def emptyT : Nat → Tree
  | 0 => .dead
  | n + 1 => .node (emptyT n) (emptyT n) (emptyT n) (emptyT n)
/-- The square of level n whose north-west corner is at x, y, of a set of cells. -/
def treeOf (P : Int → Int → Bool) : Nat → Int → Int → Tree
  | 0, x, y => if P x y then .alive else .dead
  | n + 1, x, y => .node (treeOf P n x y) (treeOf P n (x + 2 ^ n) y) (treeOf P n x (y + 2 ^ n)) (treeOf P n (x + 2 ^ n) (y + 2 ^ n))
/-- A place within a square. -/
def inB (n : Nat) (x y a b : Int) : Prop := x ≤ a ∧ a < x + 2 ^ n ∧ y ≤ b ∧ b < y + 2 ^ n
theorem pow_pos2 (n : Nat) : (0 : Int) < 2 ^ n := Int.pow_pos (by decide)
theorem inB.up {n : Nat} {x y a b : Int} : inB (n + 1) x y a b ↔ inB n x y a b ∨ inB n (x + 2 ^ n) y a b ∨ inB n x (y + 2 ^ n) a b ∨ inB n (x + 2 ^ n) (y + 2 ^ n) a b := by
  have := pow_pos2 n
  unfold inB
  rw [Int.pow_succ]
  omega
theorem treeOf_congr {P Q : Int → Int → Bool} : ∀ {n : Nat} {x y : Int}, (∀ a b, inB n x y a b → P a b = Q a b) → treeOf P n x y = treeOf Q n x y
  | 0, x, y, h => by
    have := h x y (by unfold inB; omega)
    simp only [treeOf, this]
  | n + 1, x, y, h => by
    simp only [treeOf]
    rw [treeOf_congr (n := n) (x := x) (y := y) fun a b hb => h a b (inB.up.2 (.inl hb)),
      treeOf_congr (n := n) (x := x + 2 ^ n) (y := y) fun a b hb => h a b (inB.up.2 (.inr (.inl hb))),
      treeOf_congr (n := n) (x := x) (y := y + 2 ^ n) fun a b hb => h a b (inB.up.2 (.inr (.inr (.inl hb)))),
      treeOf_congr (n := n) (x := x + 2 ^ n) (y := y + 2 ^ n) fun a b hb => h a b (inB.up.2 (.inr (.inr (.inr hb))))]
theorem treeOf_inj {P Q : Int → Int → Bool} : ∀ {n : Nat} {x y : Int}, treeOf P n x y = treeOf Q n x y → ∀ a b, inB n x y a b → P a b = Q a b
  | 0, x, y, h, a, b, hb => by
    unfold inB at hb
    have h1 : a = x := by omega
    have h2 : b = y := by omega
    subst h1 h2
    simp only [treeOf] at h
    cases hp : P a b <;> cases hq : Q a b <;> simp_all
  | n + 1, x, y, h, a, b, hb => by
    simp only [treeOf] at h
    injection h with h0 h1 h2 h3
    rcases inB.up.1 hb with k | k | k | k
    · exact treeOf_inj h0 a b k
    · exact treeOf_inj h1 a b k
    · exact treeOf_inj h2 a b k
    · exact treeOf_inj h3 a b k
theorem treeOf_none {P : Int → Int → Bool} : ∀ {n : Nat} {x y : Int}, (∀ a b, inB n x y a b → P a b = false) → treeOf P n x y = emptyT n
  | 0, x, y, h => by
    have := h x y (by unfold inB; omega)
    simp [treeOf, this, emptyT]
  | n + 1, x, y, h => by
    simp only [treeOf, emptyT]
    rw [treeOf_none (n := n) (x := x) (y := y) fun a b hb => h a b (inB.up.2 (.inl hb)),
      treeOf_none (n := n) (x := x + 2 ^ n) (y := y) fun a b hb => h a b (inB.up.2 (.inr (.inl hb))),
      treeOf_none (n := n) (x := x) (y := y + 2 ^ n) fun a b hb => h a b (inB.up.2 (.inr (.inr (.inl hb)))),
      treeOf_none (n := n) (x := x + 2 ^ n) (y := y + 2 ^ n) fun a b hb => h a b (inB.up.2 (.inr (.inr (.inr hb))))]
theorem treeOf_empty : ∀ (n : Nat) (x y : Int), treeOf (fun _ _ => false) n x y = emptyT n := fun _n _x _y => treeOf_none fun _ _ _ => rfl
theorem treeOf_emptyT {P : Int → Int → Bool} {n : Nat} {x y : Int} : treeOf P n x y = emptyT n ↔ ∀ a b, inB n x y a b → P a b = false := by
  constructor
  · intro h a b hb
    rw [← treeOf_empty n x y] at h
    exact treeOf_inj h a b hb
  · exact treeOf_none
theorem treeOf_lvl (P : Int → Int → Bool) : ∀ (n : Nat) (x y : Int), (treeOf P n x y).lvl = n
  | 0, x, y => by simp only [treeOf]; split <;> rfl
  | n + 1, x, y => by simp only [treeOf, Tree.lvl]; rw [treeOf_lvl P n x y]; omega
theorem emptyT_lvl (n : Nat) : (emptyT n).lvl = n := by rw [← treeOf_empty n 0 0]; exact treeOf_lvl _ n 0 0

/-- All squares that a tree is made of. -/
def nodes : Tree → List Thing
  | .node a b c d => .sq a b c d :: (nodes a ++ nodes b ++ nodes c ++ nodes d)
  | .dead => []
  | .alive => []
theorem mem_nodes {a b c d : Tree} {x : Thing} : x ∈ nodes (.node a b c d) ↔ x = .sq a b c d ∨ x ∈ nodes a ∨ x ∈ nodes b ∨ x ∈ nodes c ∨ x ∈ nodes d := by
  simp only [nodes, List.mem_cons, List.mem_append]
  constructor
  · rintro (h | ((h | h) | h) | h)
    · exact .inl h
    · exact .inr (.inl h)
    · exact .inr (.inr (.inl h))
    · exact .inr (.inr (.inr (.inl h)))
    · exact .inr (.inr (.inr (.inr h)))
  · rintro (h | h | h | h | h)
    · exact .inl h
    · exact .inr (.inl (.inl (.inl h)))
    · exact .inr (.inl (.inl (.inr h)))
    · exact .inr (.inl (.inr h))
    · exact .inr (.inr h)
theorem nodes_has {l : List Thing} (hc : ∀ x ∈ l, kidsIn l x) : ∀ {T : Tree}, hasT l T = true → ∀ x ∈ nodes T, x ∈ l
  | .dead, _, x, hx => by simp [nodes] at hx
  | .alive, _, x, hx => by simp [nodes] at hx
  | .node a b c d, h, x, hx => by
    have hm : Thing.sq a b c d ∈ l := of_decide_eq_true h
    obtain ⟨h0, h1, h2, h3⟩ := hc _ hm
    rcases mem_nodes.1 hx with rfl | k | k | k | k
    · exact hm
    · exact nodes_has hc h0 x k
    · exact nodes_has hc h1 x k
    · exact nodes_has hc h2 x k
    · exact nodes_has hc h3 x k
theorem has_nodes {l : List Thing} {T : Tree} (h : ∀ x ∈ nodes T, x ∈ l) : hasT l T = true := by
  cases T with
  | dead => rfl
  | alive => rfl
  | node a b c d => exact decide_eq_true (h _ (mem_nodes.2 (.inl rfl)))
/-- The empty squares up to a level. -/
def blanks : Nat → List Thing
  | 0 => []
  | n + 1 => .sq (emptyT n) (emptyT n) (emptyT n) (emptyT n) :: blanks n
theorem blanks_length : ∀ n, (blanks n).length = n
  | 0 => rfl
  | n + 1 => by simp [blanks, blanks_length n]
theorem nodes_emptyT : ∀ (n : Nat) (x : Thing), x ∈ nodes (emptyT n) ↔ x ∈ blanks n
  | 0, x => by simp [nodes, emptyT, blanks]
  | n + 1, x => by
    simp only [emptyT, blanks, mem_nodes, List.mem_cons, nodes_emptyT n x]
    constructor
    · rintro (h | h | h | h | h)
      · exact .inl h
      all_goals exact .inr h
    · rintro (h | h)
      · exact .inl h
      · exact .inr (.inl h)
theorem blanks_mono : ∀ {n m : Nat}, n ≤ m → ∀ x ∈ blanks n, x ∈ blanks m
  | n, 0, h, x, hx => by
    have : n = 0 := by omega
    subst this; exact hx
  | n, m + 1, h, x, hx => by
    rcases Nat.lt_or_ge n (m + 1) with k | k
    · exact List.mem_cons_of_mem _ (blanks_mono (by omega) x hx)
    · have : n = m + 1 := by omega
      subst this; exact hx
/-- The cells of a list, as a set. -/
def setOfL (l : List (Int × Int)) (a b : Int) : Bool := decide ((a, b) ∈ l)
def cntB (l : List (Int × Int)) (n : Nat) (x y : Int) : Nat := l.countP fun c => decide (x ≤ c.1 ∧ c.1 < x + 2 ^ n ∧ y ≤ c.2 ∧ c.2 < y + 2 ^ n)
theorem cntB_zero {l : List (Int × Int)} {n : Nat} {x y : Int} (h : cntB l n x y = 0) : ∀ a b, inB n x y a b → setOfL l a b = false := by
  intro a b hb
  unfold cntB at h
  rw [List.countP_eq_zero] at h
  unfold setOfL
  rw [decide_eq_false_iff_not]
  intro hm
  exact h _ hm (decide_eq_true hb)
theorem cntB_up (n : Nat) (x y : Int) : ∀ (l : List (Int × Int)), cntB l (n + 1) x y = cntB l n x y + cntB l n (x + 2 ^ n) y + cntB l n x (y + 2 ^ n) + cntB l n (x + 2 ^ n) (y + 2 ^ n)
  | [] => rfl
  | c :: l => by
    have ih := cntB_up n x y l
    unfold cntB at ih ⊢
    simp only [List.countP_cons]
    rw [ih]
    have hp := pow_pos2 n
    rw [show (2 : Int) ^ (n + 1) = 2 ^ n * 2 from Int.pow_succ 2 n]
    generalize (2 : Int) ^ n = m at *
    by_cases h1 : x ≤ c.1 ∧ c.1 < x + m * 2 ∧ y ≤ c.2 ∧ c.2 < y + m * 2
    · obtain ⟨a1, a2, a3, a4⟩ := h1
      by_cases h2 : c.1 < x + m <;> by_cases h3 : c.2 < y + m
      · rw [if_pos (by simp; omega), if_pos (by simp; omega), if_neg (by simp; omega), if_neg (by simp; omega), if_neg (by simp; omega)]; omega
      · rw [if_pos (by simp; omega), if_neg (by simp; omega), if_neg (by simp; omega), if_pos (by simp; omega), if_neg (by simp; omega)]; omega
      · rw [if_pos (by simp; omega), if_neg (by simp; omega), if_pos (by simp; omega), if_neg (by simp; omega), if_neg (by simp; omega)]; omega
      · rw [if_pos (by simp; omega), if_neg (by simp; omega), if_neg (by simp; omega), if_neg (by simp; omega), if_pos (by simp; omega)]; omega
    · rw [if_neg (by simpa using fun a b c d => h1 ⟨a, b, c, d⟩), if_neg (by simp; omega), if_neg (by simp; omega), if_neg (by simp; omega), if_neg (by simp; omega)]; omega
theorem cntB_le (l : List (Int × Int)) (n : Nat) (x y : Int) : cntB l n x y ≤ l.length := List.countP_le_length
/-- The squares of a set of cells: at most one a cell and level, besides the empty ones. -/
theorem nodes_few (l : List (Int × Int)) : ∀ (n : Nat) (x y : Int), ∃ V : List Thing, (∀ t ∈ nodes (treeOf (setOfL l) n x y), t ∈ blanks n ++ V) ∧ V.length ≤ cntB l n x y * n
  | 0, x, y => ⟨[], fun t ht => by
      simp only [treeOf] at ht
      split at ht <;> simp [nodes] at ht, by simp⟩
  | n + 1, x, y => by
    by_cases h0 : cntB l (n + 1) x y = 0
    · refine ⟨[], fun t ht => ?_, by simp⟩
      rw [treeOf_none (cntB_zero h0), nodes_emptyT] at ht
      simpa using ht
    · obtain ⟨V0, a0, b0⟩ := nodes_few l n x y
      obtain ⟨V1, a1, b1⟩ := nodes_few l n (x + 2 ^ n) y
      obtain ⟨V2, a2, b2⟩ := nodes_few l n x (y + 2 ^ n)
      obtain ⟨V3, a3, b3⟩ := nodes_few l n (x + 2 ^ n) (y + 2 ^ n)
      refine ⟨.sq (treeOf (setOfL l) n x y) (treeOf (setOfL l) n (x + 2 ^ n) y) (treeOf (setOfL l) n x (y + 2 ^ n)) (treeOf (setOfL l) n (x + 2 ^ n) (y + 2 ^ n)) :: (V0 ++ V1 ++ V2 ++ V3), fun t ht => ?_, ?_⟩
      · simp only [treeOf] at ht
        have hbl : ∀ {V : List Thing}, t ∈ blanks n ++ V → t ∈ blanks (n + 1) ∨ t ∈ V := fun {V} h => by
          rcases List.mem_append.1 h with k | k
          · exact .inl (blanks_mono (Nat.le_succ n) t k)
          · exact .inr k
        rw [List.mem_append, List.mem_cons, List.mem_append, List.mem_append, List.mem_append]
        rcases mem_nodes.1 ht with k | k | k | k | k
        · exact .inr (.inl k)
        · rcases hbl (a0 t k) with q | q
          · exact .inl q
          · exact .inr (.inr (.inl (.inl (.inl q))))
        · rcases hbl (a1 t k) with q | q
          · exact .inl q
          · exact .inr (.inr (.inl (.inl (.inr q))))
        · rcases hbl (a2 t k) with q | q
          · exact .inl q
          · exact .inr (.inr (.inl (.inr q)))
        · rcases hbl (a3 t k) with q | q
          · exact .inl q
          · exact .inr (.inr (.inr q))
      · simp only [List.length_cons, List.length_append]
        have hu := cntB_up n x y l
        rw [Nat.mul_succ]
        have : cntB l (n + 1) x y * n = cntB l n x y * n + cntB l n (x + 2 ^ n) y * n + cntB l n x (y + 2 ^ n) * n + cntB l n (x + 2 ^ n) (y + 2 ^ n) * n := by
          rw [hu, Nat.add_mul, Nat.add_mul, Nat.add_mul]
        omega
end Go.Proofs.Ytdbhddkkcchmmaa

namespace Go.Proofs.Ytdbhddkkcchmmaa
open Go.RowKit

/-- A step for a tenant: what others have stays; trees that are had stay what they are. -/
structure St (t : Nat) (S : ArS) (A : Nat → Abs) (S' : ArS) (A' : Nat → Abs) : Prop where
  rel : Rel S' A'
  oth : ∀ u, u ≠ t → A' u = A u
  mono : ∀ x ∈ (A t).have_, x ∈ (A' t).have_
  add : (∀ u, u < 64 → ((S.added u).length : Int) ≤ S.count u) → ∀ u, u < 64 → ((S'.added u).length : Int) ≤ S'.count u
  stay : ∀ u, u < 64 → ∀ x id, hasT (A u).have_ x = true → Den S id x → Den S' id x
  quota : S'.quota = S.quota
  room : S'.room = S.room
/-- All things are of this list. -/
def Within (S : ArS) (V : List Thing) : Prop := ∀ (i : Nat) x, DenT S i x → x ∈ V
/-- Things were made for a tenant, unless there was too much. -/
structure Made (t : Nat) (L : List Thing) (S : ArS) (A : Nat → Abs) (bad : Int) (S' : ArS) (A' : Nat → Abs) (bad' : Int) : Prop where
  st : St t S A S' A'
  ok : bad' = 0 → bad = 0 ∧ (∀ x, x ∈ (A' t).have_ ↔ x ∈ (A t).have_ ∨ x ∈ L) ∧ ∀ x, x ∈ (A' t).added ↔ x ∈ (A t).added ∨ x ∈ L ∧ x ∉ (A t).have_
  code : bad' = bad ∨ bad = 0 ∧ (bad' = 9 ∨ bad' = 5)
  enough : ∀ V, Within S V → (∀ x ∈ L, x ∈ V) → (V.length : Int) < S.room → (V.length : Int) < S.quota t → bad' = bad ∧ Within S' V ∧ Stays (fun _ => True) S S'
section
variable {S S' S1 S2 : ArS} {A A' A1 A2 : Nat → Abs} {t : Nat} {L L' L1 L2 : List Thing} {bad bad' bad1 bad2 : Int}
theorem Stays.refl (P : EntD → Prop) (S : ArS) : Stays P S S := fun _ e he hx _ => ⟨e, he, rfl, rfl, rfl, hx⟩
theorem Stays.trans (h : Stays (fun _ => True) S S1) (k : Stays (fun _ => True) S1 S2) : Stays (fun _ => True) S S2 := fun i e he hx _ => by
  obtain ⟨e1, p1, p2, p3, p4, p5⟩ := h i e he hx trivial
  obtain ⟨e2, p6, p7, p8, p9, p10⟩ := k i e1 p1 (by rw [p2]; exact p5) trivial
  exact ⟨e2, p6, p7.trans p2, p8.trans p3, p9.trans p4, by rw [← p2]; exact p10⟩
theorem St.refl (h : Rel S A) (t : Nat) : St t S A S A := ⟨h, fun _ _ => rfl, fun _ h => h, fun h => h, fun _ _ _ _ _ h => h, rfl, rfl⟩
theorem St.has (h : St t S A S1 A1) {u : Nat} {x : Thing} (hx : x ∈ (A u).have_) : x ∈ (A1 u).have_ := by
  by_cases hu : u = t
  · subst hu; exact h.mono x hx
  · rw [h.oth u hu]; exact hx
theorem St.hasT (h : St t S A S1 A1) {u : Nat} {x : Tree} (hx : hasT (A u).have_ x = true) : hasT (A1 u).have_ x = true := hasT.mono (fun _ => h.has) hx
theorem St.trans (h : St t S A S1 A1) (k : St t S1 A1 S2 A2) : St t S A S2 A2 :=
  ⟨k.rel, fun u hu => (k.oth u hu).trans (h.oth u hu), fun x hx => k.mono x (h.mono x hx), fun ha => k.add (h.add ha), fun u hu x id hx hd => k.stay u hu x id (h.hasT hx) (h.stay u hu x id hx hd), k.quota.trans h.quota, k.room.trans h.room⟩
theorem Made.refl (h : Rel S A) (t : Nat) (bad : Int) : Made t [] S A bad S A bad :=
  ⟨St.refl h t, fun e => ⟨e, fun x => by simp, fun x => by simp⟩, .inl rfl, fun V hV _ _ _ => ⟨rfl, hV, Stays.refl _ S⟩⟩
theorem Made.trans (h : Made t L1 S A bad S1 A1 bad1) (k : Made t L2 S1 A1 bad1 S2 A2 bad2) : Made t (L1 ++ L2) S A bad S2 A2 bad2 := by
  refine ⟨h.st.trans k.st, fun e => ?_, ?_, fun V hV hL hr hq => ?_⟩
  · obtain ⟨e1, k1, k2⟩ := k.ok e
    obtain ⟨e0, h1, h2⟩ := h.ok e1
    refine ⟨e0, fun x => ?_, fun x => ?_⟩
    · rw [k1, h1, List.mem_append, or_assoc]
    · rw [k2, h2, h1, List.mem_append]
      by_cases a : x ∈ L1 <;> by_cases b : x ∈ L2 <;> by_cases c : x ∈ (A t).have_ <;> simp [a, b, c]
  · rcases k.code with e | ⟨e, e'⟩
    · rw [e]; exact h.code
    · rcases h.code with f | ⟨f, f'⟩
      · exact .inr ⟨f ▸ e, e'⟩
      · exact .inr ⟨f, e'⟩
  · obtain ⟨a1, a2, a3⟩ := h.enough V hV (fun x hx => hL x (List.mem_append_left _ hx)) hr hq
    obtain ⟨b1, b2, b3⟩ := k.enough V a2 (fun x hx => hL x (List.mem_append_right _ hx)) (by rw [h.st.room]; exact hr) (by rw [h.st.quota]; exact hq)
    exact ⟨b1.trans a1, b2, a3.trans b3⟩
theorem Made.of (h : Made t L S A bad S' A' bad') (h1 : ∀ x ∈ L, x ∈ L') (h2 : bad' = 0 → ∀ x ∈ L', x ∈ L ∨ x ∈ (A t).have_) : Made t L' S A bad S' A' bad' := by
  refine ⟨h.st, fun e => ?_, h.code, fun V hV hL => h.enough V hV fun x hx => hL x (h1 x hx)⟩
  obtain ⟨e0, a1, a2⟩ := h.ok e
  refine ⟨e0, fun x => ?_, fun x => ?_⟩
  · rw [a1]
    constructor
    · rintro (a | a)
      · exact .inl a
      · exact .inr (h1 x a)
    · rintro (a | a)
      · exact .inl a
      · rcases h2 e x a with b | b
        · exact .inr b
        · exact .inl b
  · rw [a2]
    constructor
    · rintro (a | ⟨a, b⟩)
      · exact .inl a
      · exact .inr ⟨h1 x a, b⟩
    · rintro (a | ⟨a, b⟩)
      · exact .inl a
      · rcases h2 e x a with c | c
        · exact .inr ⟨c, b⟩
        · exact absurd c b
/-- What was had already need not be told. -/
theorem Made.shrink (h : Made t L S A 0 S' A' bad') (hr : Rel S A) (ht : t < 64) (h1 : ∀ x ∈ L', x ∈ L) (h2 : ∀ x ∈ L, x ∈ L' ∨ x ∈ (A t).have_) : Made t L' S A 0 S' A' bad' := by
  refine ⟨h.st, fun e => ?_, h.code, fun V hV hL hrm hq => ?_⟩
  · obtain ⟨e0, a1, a2⟩ := h.ok e
    refine ⟨e0, fun x => ?_, fun x => ?_⟩
    · rw [a1]
      constructor
      · rintro (a | a)
        · exact .inl a
        · rcases h2 x a with b | b
          · exact .inr b
          · exact .inl b
      · rintro (a | a)
        · exact .inl a
        · exact .inr (h1 x a)
    · rw [a2]
      constructor
      · rintro (a | ⟨a, b⟩)
        · exact .inl a
        · rcases h2 x a with c | c
          · exact .inr ⟨c, b⟩
          · exact absurd c b
      · rintro (a | ⟨a, b⟩)
        · exact .inl a
        · exact .inr ⟨h1 x a, b⟩
  · refine h.enough V hV (fun x hx => ?_) hrm hq
    rcases h2 x hx with a | a
    · exact hL x a
    · obtain ⟨i, e, _, _, h3⟩ := (hr.own t ht x).1 a
      exact hV i x h3
/-- A hand that has failed does nothing. -/
theorem Made.none (h : Rel S A) (t : Nat) {bad : Int} (hb : bad ≠ 0) (L : List Thing) : Made t L S A bad S A bad :=
  ⟨St.refl h t, fun e => absurd e hb, .inl rfl, fun _V hV _ _ _ => ⟨rfl, hV, Stays.refl _ S⟩⟩

/-- The things that there are, each once. -/
theorem Rel.things (h : Rel S A) : ∃ V : List Thing, V.Nodup ∧ Within S V ∧ (V.length : Int) = S.live ∧ ∀ x ∈ V, ∃ i : Nat, DenT S i x := by
  rw [h.live, h.inv.cnt, List.countP_eq_length_filter]
  generalize hL : (List.range S.ents.length).filter (inIdx S) = I
  have hmem : ∀ i, i ∈ I ↔ ∃ e, S.ents[i]? = some e ∧ S.idx e.key = some (i : Int) := by
    intro i
    rw [← hL, List.mem_filter, List.mem_range]
    constructor
    · rintro ⟨h1, h2⟩
      cases he : S.ents[i]? with
      | none => unfold inIdx at h2; rw [he] at h2; cases h2
      | some e => rw [inIdx_eq he] at h2; exact ⟨e, rfl, of_decide_eq_true h2⟩
    · rintro ⟨e, h1, h2⟩
      exact ⟨(List.getElem?_eq_some_iff.1 h1).1, by rw [inIdx_eq h1]; exact decide_eq_true h2⟩
  have hnd : I.Nodup := by rw [← hL]; exact List.Pairwise.filter _ List.nodup_range
  have key : ∀ i : Nat, ∃ x : Thing, i ∈ I → DenT S i x := by
    intro i
    by_cases hi : i ∈ I
    · obtain ⟨e, h1, h2⟩ := (hmem i).1 hi
      obtain ⟨⟨x, hx⟩, _⟩ := h.good i e h1 h2
      exact ⟨x, fun _ => hx⟩
    · exact ⟨.note .dead 0 0, fun h => absurd h hi⟩
  obtain ⟨f, hf⟩ := Classical.axiomOfChoice key
  refine ⟨I.map f, nodup_map (fun a ha b hb e => ?_) hnd, fun i x hd => ?_, by rw [List.length_map], fun x hx => ?_⟩
  · have h1 := hf a ha
    have h2 := hf b hb
    rw [e] at h1
    exact DenT.inj h1 h2
  · obtain ⟨e, he, hx⟩ := hd.ent
    have hi : i ∈ I := (hmem i).2 ⟨e, he, hx⟩
    rw [DenT.fn h.inv hd (hf i hi)]
    exact List.mem_map.2 ⟨i, hi, rfl⟩
  · obtain ⟨i, hi, rfl⟩ := List.mem_map.1 hx
    exact ⟨i, hf i hi⟩
theorem Rel.live_le (h : Rel S A) {V : List Thing} (hV : Within S V) : S.live ≤ V.length := by
  obtain ⟨V0, h1, _, h3, h4⟩ := h.things
  have := List.Nodup.length_le_of_subset h1 (l₂ := V) fun x hx => by obtain ⟨i, hi⟩ := h4 x hx; exact hV i x hi
  omega
theorem Rel.have_in (h : Rel S A) (ht : t < 64) {V : List Thing} (hV : Within S V) : ∀ x ∈ (A t).have_, x ∈ V := fun x hx => by
  obtain ⟨i, e, _, _, h3⟩ := (h.own t ht x).1 hx
  exact hV i x h3
theorem Rel.nodes_has (h : Rel S A) (ht : t < 64) {T : Tree} (hh : Go.Proofs.Ytdbhddkkcchmmaa.hasT (A t).have_ T = true) : ∀ x ∈ nodes T, x ∈ (A t).have_ := Go.Proofs.Ytdbhddkkcchmmaa.nodes_has (h.ok t ht).closed hh
/-- Sweeping leaves the trees that somebody has. -/
theorem Rel.sweep_stay (h : Rel S A) {n : Nat} (hs : SweepR S S' n) : ∀ u, u < 64 → ∀ x id, Go.Proofs.Ytdbhddkkcchmmaa.hasT (A u).have_ x = true → Den S id x → Den S' id x := fun u hu x id hx hd =>
  Den.staysO h.inv (h.sweep hs).2.1 (h.ok u hu).closed (fun y hy => by
    obtain ⟨i, e, q1, q2, q3⟩ := (h.own u hu y).1 hy
    exact ⟨i, e, q1, testBit_ne q2, q3⟩) hx hd
theorem KeyT.stay {k : KeyA} {lv : Int} (hs : ∀ x id, Go.Proofs.Ytdbhddkkcchmmaa.hasT (A t).have_ x = true → Den S id x → Den S' id x) : ∀ {x : Thing}, kidsIn (A t).have_ x → KeyT S k lv x → KeyT S' k lv x
  | .sq .., hk, h => ⟨h.1, h.2.1, hs _ _ hk.1 h.2.2.1, hs _ _ hk.2.1 h.2.2.2.1, hs _ _ hk.2.2.1 h.2.2.2.2.1, hs _ _ hk.2.2.2 h.2.2.2.2.2⟩
  | .note .., hk, h => ⟨h.1, h.2.1, h.2.2.1, h.2.2.2.1, hs _ _ hk h.2.2.2.2⟩
/-- What a new number may be. -/
theorem make_back (h : Rel S A) {i : Nat} {k : KeyA} {lv va : Int} (ht2 : TakeR S i S1) {j : Nat} {y : Thing} (hd : DenT (newS S1 i k lv va) j y) : j = i ∨ ∃ z, DenT S j z := by
  by_cases hj : j = i
  · exact .inl hj
  · obtain ⟨e, he, hx⟩ := hd.ent
    have hE : S1.ents[j]? = S.ents[j]? := by
      rcases ht2 with ⟨fr, hp, rfl⟩ | ⟨hf, hi, rfl⟩
      · rfl
      · show (S.ents ++ [zeroE])[j]? = _
        by_cases hl : j < S.ents.length
        · rw [List.getElem?_append_left hl]
        · rw [List.getElem?_eq_none (by simp; omega), List.getElem?_eq_none (by omega)]
    have he : (S1.ents.set i ⟨k, lv, va, 0⟩)[j]? = some e := he
    rw [List.getElem?_set_ne (Ne.symm hj), hE] at he
    have hx : (if e.key = k then some (i : Int) else S1.idx e.key) = some (j : Int) := hx
    split at hx
    · have := Option.some.inj hx; omega
    · rw [ht2.keeps.2.2.1] at hx
      obtain ⟨⟨z, hz⟩, _⟩ := h.good j e he hx
      exact .inr ⟨z, hz⟩
/-- What give does, in plain words, whatever room there is. -/
theorem Rel.giveG (h : Rel S A) (ht : t < 64) {k : KeyA} {lv va r c : Int} {x : Thing} (hk : k.ok) (hlv : 0 ≤ lv ∧ lv ≤ 44) (hx : KeyT S k lv x) (hv : k.kind = 1 → va = k.a0) (hkid : kidsIn (A t).have_ x) (hg : GiveR S t k lv va r c S') :
    ∃ A', Made t [x] S A 0 S' A' c ∧ (c = 0 → ∃ i : Nat, r = i ∧ DenT S' i x) := by
  have hdn : ∀ {i : Nat} {e : EntD}, S.idx k = some (i : Int) → S.ents[i]? = some e → e.key = k ∧ DenT S i x := fun {i e} hi he => by
    have hek := h.inv.idx_of he hi
    obtain ⟨⟨y, hy⟩, _⟩ := h.good i e he (hek ▸ hi)
    have := KeyT.of h.inv he hek hx hy
    subst this
    exact ⟨hek, hy⟩
  have hup : ∀ {B : Abs}, x ∉ (A t).have_ → B = ⟨(A t).have_ ++ [x], (A t).added ++ [x]⟩ → (∀ y, y ∈ (upd A t B t).have_ ↔ y ∈ (A t).have_ ∨ y ∈ [x]) ∧ ∀ y, y ∈ (upd A t B t).added ↔ y ∈ (A t).added ∨ y ∈ [x] ∧ y ∉ (A t).have_ := by
    intro B hno hB
    subst hB
    refine ⟨fun y => by rw [upd_same, List.mem_append], fun y => ?_⟩
    rw [upd_same, List.mem_append, List.mem_singleton]
    constructor
    · rintro (a | a)
      · exact .inl a
      · exact .inr ⟨a, a ▸ hno⟩
    · rintro (a | ⟨a, _⟩)
      · exact .inl a
      · exact .inr a
  have hmo : ∀ {B : Abs}, B = ⟨(A t).have_ ++ [x], (A t).added ++ [x]⟩ → ∀ y ∈ (A t).have_, y ∈ (upd A t B t).have_ := by
    intro B hB y hy
    subst hB
    rw [upd_same]; exact List.mem_append_left _ hy
  cases hg with
  | has i e hi he hb =>
    obtain ⟨hek, hd⟩ := hdn hi he
    have hm : x ∈ (A t).have_ := (h.own t ht x).2 ⟨i, e, he, hb, hd⟩
    exact ⟨A, (Made.refl h t 0).of (fun _ h => by cases h) (fun _ y hy => by rw [List.mem_singleton.1 hy]; exact .inr hm), fun _ => ⟨i, rfl, hd⟩⟩
  | much hno hq =>
    have hm : x ∉ (A t).have_ := fun hm => by
      obtain ⟨j, e, q1, q2, q3⟩ := (h.own t ht x).1 hm
      obtain ⟨e', q4, q5, q6⟩ := hx.key q3
      rw [q1] at q4; cases q4
      rw [hno j e q6 q1] at q2; cases q2
    rw [h.count ht] at hq
    refine ⟨A, ⟨St.refl h t, (fun e => by cases e), .inr ⟨rfl, .inl rfl⟩, fun V hV hL hr hq2 => ?_⟩, fun e => by cases e⟩
    have hnd : ((A t).have_ ++ [x]).Nodup := List.nodup_append.2 ⟨(h.ok t ht).nodup, by simp, fun a ha b hb => by
      rw [List.mem_singleton] at hb; subst hb; rintro rfl; exact hm ha⟩
    have := List.Nodup.length_le_of_subset hnd (l₂ := V) fun y hy => by
      rcases List.mem_append.1 hy with a | a
      · exact h.have_in ht hV y a
      · exact hL y a
    rw [List.length_append, List.length_singleton] at this
    omega
  | joins i e hi he hb hq =>
    obtain ⟨hek, hd⟩ := hdn hi he
    obtain ⟨hno, tw, hrel⟩ := h.gain ht he hb (hek ▸ hi) hd hkid
    refine ⟨_, ⟨⟨hrel, fun u hu => upd_ne _ _ hu, hmo rfl, fun ha u hu => ?_, fun u hu y id _ hd => tw.den.2 hd, by rw [gain_in he], by rw [gain_in he]⟩, fun _ => ⟨rfl, hup hno rfl⟩, .inl rfl, fun V hV hL hr hq => ⟨rfl, fun j y hd => hV j y (tw.denT.1 hd), tw.stays⟩⟩, fun _ => ⟨i, rfl, tw.denT.2 hd⟩⟩
    rw [gain_in he]
    show ((upd S.added t (S.added t ++ [(i : Int)]) u).length : Int) ≤ upd S.count t (S.count t + 1) u
    by_cases hut : u = t
    · subst hut
      rw [upd_same, upd_same, List.length_append, List.length_singleton]
      have := ha u hu; omega
    · rw [upd_ne _ _ hut, upd_ne _ _ hut]; exact ha u hu
  | full S0 n hn hq hr hs hr2 =>
    obtain ⟨s1, s2, s3, s4, s5⟩ := h.sweep hs
    have hkp := sweep_keeps h.inv hs
    refine ⟨A, ⟨⟨s1, fun _ _ => rfl, fun _ h => h, fun ha u hu => by rw [hkp.1, hkp.2.2.1]; exact ha u hu, h.sweep_stay hs, s3, s4⟩, (fun e => by cases e), .inr ⟨rfl, .inr rfl⟩, fun V hV hL hr3 hq2 => ?_⟩, fun e => by cases e⟩
    have := h.live_le hV; omega
  | makes S0 S1 i hn hq hs hr ht2 =>
    obtain ⟨h0, hst0, hq0, hr0, hc0, ha0, hn0⟩ : Rel S0 A ∧ (∀ u, u < 64 → ∀ x id, Go.Proofs.Ytdbhddkkcchmmaa.hasT (A u).have_ x = true → Den S id x → Den S0 id x) ∧ S0.quota = S.quota ∧ S0.room = S.room ∧ S0.count = S.count ∧ S0.added = S.added ∧ S0.idx k = none := by
      rcases hs with ⟨_, rfl⟩ | ⟨_, n, hs⟩
      · exact ⟨h, fun _ _ _ _ _ hd => hd, rfl, rfl, rfl, rfl, hn⟩
      · obtain ⟨s1, s2, s3, s4, s5⟩ := h.sweep hs
        have hkp := sweep_keeps h.inv hs
        exact ⟨s1, h.sweep_stay hs, s3, s4, hkp.1, hkp.2.2.1, hs.gone h.inv hn⟩
    have hx0 : KeyT S0 k lv x := KeyT.stay (A := A) (t := t) (fun y id hy hd => hst0 t ht y id hy hd) hkid hx
    obtain ⟨hrel, he, hi, hd, hst⟩ := h0.make (va := va) ht2 hk hlv hn0 hr hx0 hv
    obtain ⟨hno, tw, hrel2⟩ := hrel.gain ht he (by simp) hi hd hkid
    obtain ⟨k1, k2, k3, k4, k5, k6, k7⟩ := ht2.keeps
    refine ⟨_, ⟨⟨hrel2, fun u hu => upd_ne _ _ hu, hmo rfl, fun ha u hu => ?_, fun u hu y id hy hd => tw.den.2 (Den.stays hst (hst0 u hu y id hy hd)), by rw [gain_in he]; exact k5.trans hq0, by rw [gain_in he]; exact k7.trans hr0⟩, fun _ => ⟨rfl, hup hno rfl⟩, .inl rfl, fun V hV hL hr3 hq2 => ?_⟩, fun _ => ⟨i, rfl, tw.denT.2 hd⟩⟩
    · rw [gain_in he]
      show ((upd S1.added t (S1.added t ++ [(i : Int)]) u).length : Int) ≤ upd S1.count t (S1.count t + 1) u
      rw [k6, k4, ha0, hc0]
      by_cases hut : u = t
      · subst hut
        rw [upd_same, upd_same, List.length_append, List.length_singleton]
        have := ha u hu; omega
      · rw [upd_ne _ _ hut, upd_ne _ _ hut]; exact ha u hu
    · rcases hs with ⟨_, rfl⟩ | ⟨hr2, _⟩
      · refine ⟨rfl, fun j y hdj => ?_, Stays.trans hst tw.stays⟩
        have hdj := tw.denT.1 hdj
        rcases make_back h0 ht2 hdj with rfl | ⟨z, hz⟩
        · rw [DenT.fn hrel.inv hdj hd]; exact hL x (List.mem_singleton.2 rfl)
        · rw [DenT.fn hrel.inv hdj (DenT.stays hst hz)]; exact hV j z hz
      · have := h.live_le hV; omega
/-- What Join does for quarters that the tenant has. -/
theorem Rel.joinG (h : Rel S A) (ht : t < 64) {a b c d : Tree} {q0 q1 q2 q3 r x : Int} {n : Int} (d0 : Den S q0 a) (d1 : Den S q1 b) (d2 : Den S q2 c) (d3 : Den S q3 d)
    (h0 : Go.Proofs.Ytdbhddkkcchmmaa.hasT (A t).have_ a = true) (h1 : Go.Proofs.Ytdbhddkkcchmmaa.hasT (A t).have_ b = true) (h2 : Go.Proofs.Ytdbhddkkcchmmaa.hasT (A t).have_ c = true) (h3 : Go.Proofs.Ytdbhddkkcchmmaa.hasT (A t).have_ d = true) (e0 : a.lvl = n) (e1 : b.lvl = n) (e2 : c.lvl = n) (e3 : d.lvl = n) (hn : n < 44) (hj : JoinR S t q0 q1 q2 q3 r x S') :
    ∃ A', Made t (nodes (.node a b c d)) S A 0 S' A' x ∧ (x = 0 → Den S' r (.node a b c d)) := by
  have o0 : ownsB S t q0 0 = true := by rw [h.owns ht d0]; exact h0
  have o1 : ownsB S t q1 0 = true := by rw [h.owns ht d1]; exact h1
  have o2 : ownsB S t q2 0 = true := by rw [h.owns ht d2]; exact h2
  have o3 : ownsB S t q3 0 = true := by rw [h.owns ht d3]; exact h3
  have l0 := d0.level h.inv
  have l1 := d1.level h.inv
  have l2 := d2.level h.inv
  have l3 := d3.level h.inv
  have four : ∀ j, j < 4 → j = 0 ∨ j = 1 ∨ j = 2 ∨ j = 3 := fun j hj => by omega
  cases hj with
  | none j hj ho =>
    exfalso
    rcases four j hj with rfl | rfl | rfl | rfl
    · rw [show qAt q0 q1 q2 q3 0 = q0 from rfl, o0] at ho; cases ho
    · rw [show qAt q0 q1 q2 q3 1 = q1 from rfl, o1] at ho; cases ho
    · rw [show qAt q0 q1 q2 q3 2 = q2 from rfl, o2] at ho; cases ho
    · rw [show qAt q0 q1 q2 q3 3 = q3 from rfl, o3] at ho; cases ho
  | level j _ hj hl =>
    exfalso
    rcases hl with hl | hl
    · rcases four j hj with rfl | rfl | rfl | rfl
      · exact hl rfl
      · exact hl (show levelOf S q1 = levelOf S q0 by omega)
      · exact hl (show levelOf S q2 = levelOf S q0 by omega)
      · exact hl (show levelOf S q3 = levelOf S q0 by omega)
    · omega
  | gives r x S' ho hl hlt hgr =>
    have hok : (⟨0, q0, q1, q2, q3⟩ : KeyA).ok := ⟨⟨by show (-9223372036854775808 : Int) ≤ 0; decide, by show (0 : Int) ≤ 9223372036854775807; decide⟩, own_i64 h.inv o0, own_i64 h.inv o1, own_i64 h.inv o2, own_i64 h.inv o3⟩
    have hl0 := a.lvl_pos
    obtain ⟨A', g1, g2⟩ := h.giveG ht (x := .sq a b c d) hok (by omega) ⟨rfl, by omega, d0, d1, d2, d3⟩ (fun e => by cases e) ⟨h0, h1, h2, h3⟩ hgr
    refine ⟨A', g1.of (fun y hy => by rw [List.mem_singleton.1 hy]; exact mem_nodes.2 (.inl rfl)) (fun _ y hy => ?_), fun e => ?_⟩
    · rcases mem_nodes.1 hy with k | k | k | k | k
      · exact .inl (List.mem_singleton.2 k)
      · exact .inr (h.nodes_has ht h0 y k)
      · exact .inr (h.nodes_has ht h1 y k)
      · exact .inr (h.nodes_has ht h2 y k)
      · exact .inr (h.nodes_has ht h3 y k)
    · obtain ⟨i, rfl, hd⟩ := g2 e
      exact hd
end
end Go.Proofs.Ytdbhddkkcchmmaa

namespace Go.Proofs.Ytdbhddkkcchmmaa
open Go.RowKit

def handC (p t : Nat) (bad : Int) (more : List Value) : Array Value := (.pointer (some ⟨p, 0, none⟩) :: .int .i64 t :: .int .i64 bad :: more).toArray
theorem handC_set (p t : Nat) (bad x : Int) (more : List Value) : (handC p t bad more).setIfInBounds 2 (.int .i64 x) = handC p t x more := by
  unfold handC; simp
/-- A hand at work for a tenant. -/
structure Hd (w : World) (hb : Nat) (ty : TypeId) (more : List Value) (p : Nat) (R : ArR) (S : ArS) (A : Nat → Abs) (t : Nat) (bad : Int) : Prop where
  arm : ArM w p R S
  blk : Blk w hb ty (handC p t bad more)
  ne : ¬ Own p R hb
  rel : Rel S A
  add : ∀ u, u < 64 → ((S.added u).length : Int) ≤ S.count u
  ht : t < 64
/-- What a hand may have changed: the arena, and the blocks that X says. -/
structure StepH (X : Nat → Prop) (p : Nat) (R R' : ArR) (w w' : World) : Prop where
  mod : Mod (fun b => Own p R b ∨ X b) w w'
  own : ∀ b, Own p R' b → Own p R b ∨ w.heap.size ≤ b
section
variable {X Y : Nat → Prop} {p hb t : Nat} {R R1 R' : ArR} {w w1 w' : World} {S S' : ArS} {A A' : Nat → Abs} {ty : TypeId} {more : List Value} {bad bad' : Int}
theorem StepH.refl (X : Nat → Prop) (p : Nat) (R : ArR) (w : World) : StepH X p R R w w := ⟨Mod.refl _ _, fun _ h => .inl h⟩
theorem Step.toH (h : Step p R R' w w') (X : Nat → Prop) : StepH X p R R' w w' := ⟨h.mod.mono fun _ _ h => .inl h, h.own⟩
theorem StepH.trans (h : StepH X p R R1 w w1) (k : StepH X p R1 R' w1 w') : StepH X p R R' w w' :=
  ⟨h.mod.trans k.mod fun b hb ho => by
    rcases ho with ho | ho
    · rcases h.own b ho with h1 | h1
      · exact .inl h1
      · omega
    · exact .inr ho, fun b hb => by
    rcases k.own b hb with h1 | h1
    · exact h.own b h1
    · exact .inr (Nat.le_trans h.mod.size h1)⟩
theorem StepH.wide (h : StepH X p R R' w w') (hX : ∀ b, b < w.heap.size → X b → Y b) : StepH Y p R R' w w' :=
  ⟨h.mod.mono fun b hb ho => by
    rcases ho with ho | ho
    · exact .inl ho
    · exact .inr (hX b hb ho), h.own⟩
theorem StepH.drew (h : StepH X p R R' w w') : StepH X p R R' w w'.drew := ⟨h.mod.drew, h.own⟩
theorem StepH.alloc (h : StepH X p R R' w w') (o : Obj) : StepH X p R R' w (w'.alloc o) := ⟨h.mod.alloc o, h.own⟩
theorem StepH.set (h : StepH X p R R' w w') {q : Addr} (hq : q.block < w.heap.size → X q.block) (u : Value) : StepH X p R R' w (w'.setCell q u) := ⟨h.mod.set (fun hb => .inr (hq hb)) u, h.own⟩
theorem StepH.of_below (h : Below w.heap.size w w') : StepH X p R R w w' := ⟨(Mod.of_below_all h).mono fun _ _ h => h.elim, fun _ h => .inl h⟩
/-- What is neither the arena's nor X's stays so. -/
theorem StepH.not (h : StepH X p R R' w w') {b : Nat} (hb : b < w.heap.size) (ho : ¬ Own p R b) : ¬ Own p R' b := fun k => by
  rcases h.own b k with k | k
  · exact ho k
  · omega
theorem ArM.below (h : ArM w p R S) (hb : Below w.heap.size w w') : ArM w' p R S := h.keep (Mod.of_below_all hb) fun _ _ h => h
theorem Hd.inv (h : Hd w hb ty more p R S A t bad) : Inv S := h.rel.inv
theorem Hd.few (h : Hd w hb ty more p R S A t bad) : (S.added t).length ≤ 1000000 := by
  have := h.add t h.ht
  have := h.rel.inv.cnt_le h.ht
  omega
theorem Hd.below (h : Hd w hb ty more p R S A t bad) (hb' : Below w.heap.size w w') : Hd w' hb ty more p R S A t bad :=
  ⟨h.arm.below hb', h.blk.mod (Mod.of_below_all hb') (fun h => h), h.ne, h.rel, h.add, h.ht⟩
theorem Sl.below {t : TypeId} {sz n : Nat} {v : Value} {xs : List Value} (h : Sl w t sz v n xs) (hb : Below w.heap.size w w1) : Sl w1 t sz v n xs := h.mod (Mod.of_below_all hb) (fun _ _ h => h)
theorem Hd.drew (h : Hd w hb ty more p R S A t bad) : Hd w.drew hb ty more p R S A t bad := ⟨h.arm.drew, h.blk, h.ne, h.rel, h.add, h.ht⟩
theorem ArM.drewN (h : ArM w p R S) (d : Nat) : ArM (w.drewN d) p R S := ⟨h.blk, h.list, h.idx.of_block rfl, h.free, h.added, h.sep1, h.sep2, h.masks⟩
theorem Hd.alloc (h : Hd w hb ty more p R S A t bad) (o : Obj) : Hd (w.alloc o) hb ty more p R S A t bad := h.below ((Below.refl _ _).alloc (Nat.le_refl _) _)
theorem Hd.c0 (h : Hd w hb ty more p R S A t bad) : w.cell? ⟨hb, 0, none⟩ = some (.pointer (some ⟨p, 0, none⟩)) := h.blk.cellS rfl
theorem Hd.c1 (h : Hd w hb ty more p R S A t bad) : w.cell? ⟨hb, 1, none⟩ = some (.int .i64 t) := h.blk.cellS rfl
theorem Hd.c2 (h : Hd w hb ty more p R S A t bad) : w.cell? ⟨hb, 2, none⟩ = some (.int .i64 bad) := h.blk.cellS rfl
theorem Hd.f (h : Hd w hb ty more p R S A t bad) (j : Nat) : w.frozen? ⟨hb, j, none⟩ = false := h.blk.frozen j
/-- Another's block is written. -/
theorem ArM.far (h : ArM w p R S) {q : Addr} (hq : ¬ Own p R q.block) (u : Value) : ArM (w.setCell q u) p R S :=
  h.keep (T := fun b => b = q.block) ((Mod.refl (fun b => b = q.block) w).set (p := q) (fun _ => rfl) u) fun b hb e => by subst e; exact hq hb
/-- Behind the arena's work the hand keeps what it was told. -/
theorem Hd.step (h : Hd w hb ty more p R S A t bad) (ha : ArM w1 p R1 S') (hs : Step p R R1 w w1) (hst : St t S A S' A') (x : Int) : Hd (w1.setCell ⟨hb, 2, none⟩ (.int .i64 x)) hb ty more p R1 S' A' t x := by
  have hlt := h.blk.lt
  have hne : ¬ Own p R1 hb := (hs.toH (fun _ => False)).not hlt h.ne
  refine ⟨ha.far (q := ⟨hb, 2, none⟩) hne _, ?_, hne, hst.rel, hst.add h.add, h.ht⟩
  rw [← handC_set p t bad x more]
  exact (h.blk.mod hs.mod h.ne).set 2 _
theorem Hd.stepH (_h : Hd w hb ty more p R S A t bad) (hs : Step p R R1 w w1) (x : Int) : StepH (fun b => b = hb) p R R1 w (w1.setCell ⟨hb, 2, none⟩ (.int .i64 x)) := (hs.toH (fun b => b = hb)).set (q := ⟨hb, 2, none⟩) (fun _ => rfl) _
/-- Behind another's work. -/
theorem Hd.keep {T : Nat → Prop} (h : Hd w hb ty more p R S A t bad) (hm : Mod T w w') (h1 : ∀ b, Own p R b → ¬ T b) (h2 : ¬ T hb) : Hd w' hb ty more p R S A t bad :=
  ⟨h.arm.keep hm h1, h.blk.mod hm h2, h.ne, h.rel, h.add, h.ht⟩
end
theorem kept2 {p a b : Nat} {R R' : ArR} {w w' : World} (h : Step p R R' w.drew w') (ha : a < w.heap.size) (hna : ¬ Own p R a) (hb : b < w.heap.size) (hnb : ¬ Own p R b) :
    (∀ j, w'.cell? ⟨a, j, none⟩ = w.cell? ⟨a, j, none⟩) ∧ ∀ j, w'.cell? ⟨b, j, none⟩ = w.cell? ⟨b, j, none⟩ :=
  ⟨fun j => h.mod.cell (a := ⟨a, j, none⟩) ha hna, fun j => h.mod.cell (a := ⟨b, j, none⟩) hb hnb⟩
/-- The tenant's own number of a tree. -/
def Has (S : ArS) (A : Nat → Abs) (t : Nat) (id : Int) (T : Tree) : Prop := Den S id T ∧ hasT (A t).have_ T = true
theorem Has.st {S S' : ArS} {A A' : Nat → Abs} {t : Nat} {id : Int} {T : Tree} (h : Has S A t id T) (ht : t < 64) (hs : St t S A S' A') : Has S' A' t id T := ⟨hs.stay t ht T id h.2 h.1, hs.hasT h.2⟩
theorem Den.i64 {S : ArS} (hI : Inv S) {id : Int} {T : Tree} (h : Den S id T) : i64r id := by
  cases T with
  | dead => simp only [Den] at h; subst h; exact ⟨by decide, by decide⟩
  | alive => simp only [Den] at h; subst h; exact ⟨by decide, by decide⟩
  | node a b c d =>
    simp only [Den] at h
    obtain ⟨i, e, rfl, h1, _⟩ := h
    have := (List.getElem?_eq_some_iff.1 h1).1
    have := hI.lenN
    exact ⟨by omega, by omega⟩
/-- What a hand's function that makes squares gives. -/
def HandPost (w : World) (hb : Nat) (ty : TypeId) (more : List Value) (p : Nat) (R : ArR) (S : ArS) (A : Nat → Abs) (t : Nat) (bad : Int) (T : Tree) (e : Ending) (w' : World) : Prop :=
  ∃ (r : Int) (S' : ArS) (A' : Nat → Abs) (R' : ArR) (bad' : Int), e = .returned (.int .i64 r) ∧ Made t (nodes T) S A bad S' A' bad' ∧ (bad' = 0 → Has S' A' t r T) ∧ Hd w' hb ty more p R' S' A' t bad' ∧ StepH (fun b => b = hb) p R R' w w'

set_option maxRecDepth 100000 in
set_option maxHeartbeats 3200000 in
theorem hjoin_any (w : World) (hb : Nat) (ty : TypeId) (more : List Value) (p : Nat) (R : ArR) (S : ArS) (A : Nat → Abs) (t : Nat) (bad : Int) (h : Hd w hb ty more p R S A t bad)
    (q0 q1 q2 q3 : Int) (a b c d : Tree) (n : Int) (hq : bad = 0 → Has S A t q0 a ∧ Has S A t q1 b ∧ Has S A t q2 c ∧ Has S A t q3 d) (hl : a.lvl = n ∧ b.lvl = n ∧ c.lvl = n ∧ d.lvl = n) (hn : n < 44) :
    Calls Try.prog 50 #[.pointer (some ⟨hb, 0, none⟩), .agg #[.int .i64 q0, .int .i64 q1, .int .i64 q2, .int .i64 q3]] w (HandPost w hb ty more p R S A t bad (.node a b c d)) := by
  have H := Lib.hid h
  have HQ := Lib.hid hq
  have HL := Lib.hid hl
  clear h hq hl
  have H2 := Lib.hid (H.out.alloc (.cells #[.int .i64 q0, .int .i64 q1, .int .i64 q2, .int .i64 q3] 51))
  have HS2 : Hid (Step p R R w (w.alloc (.cells #[.int .i64 q0, .int .i64 q1, .int .i64 q2, .int .i64 q3] 51))) := (Step.refl p R w).alloc _
  have HB2 := Lib.hid (Blk.new w 51 #[.int .i64 q0, .int .i64 q1, .int .i64 q2, .int .i64 q3])
  have c2 := H2.out.c2
  by_cases hb0 : bad = 0
  · subst hb0
    have HQ0 := Lib.hid (HQ.out rfl)
    clear HQ
    go_enter Try.func50, Try.ntmps50
    go_wp2_with fail
    clear c2
    generalize World.alloc w _ = w2 at H2 HS2 HB2 ⊢
    have c0 := H2.out.c0
    have c1 := H2.out.c1
    have b0 := HB2.out.cellS (i := 0) rfl
    have b1 := HB2.out.cellS (i := 1) rfl
    have b2 := HB2.out.cellS (i := 2) rfl
    have b3 := HB2.out.cellS (i := 3) rfl
    have HJ := Lib.hid (join_any w2.drew p R S H2.out.arm.drew H2.out.inv H2.out.rel.live t H2.out.ht H2.out.few q0 q1 q2 q3)
    have HLT := Lib.hid H2.out.blk.lt
    have HLB := Lib.hid HB2.out.lt
    have HNB : Hid (¬ Own p R w.heap.size) := fun ho => Nat.lt_irrefl _ (H.out.arm.own_lt ho)
    go_region_held3 (fun w' => w'.cell? ⟨hb, 0, none⟩ = some (.pointer (some ⟨p, 0, none⟩)) ∧ w'.cell? ⟨hb, 1, none⟩ = some (.int .i64 t) ∧ w'.cell? ⟨w.heap.size, 0, none⟩ = some (.int .i64 q0) ∧ w'.cell? ⟨w.heap.size, 1, none⟩ = some (.int .i64 q1) ∧ w'.cell? ⟨w.heap.size, 2, none⟩ = some (.int .i64 q2) ∧ w'.cell? ⟨w.heap.size, 3, none⟩ = some (.int .i64 q3))
      (first | exact ⟨c0, c1, b0, b1, b2, b3⟩ | exact ⟨e0, e1, e2, e3, e4, e5⟩ | go_keep)
      ((go_at_call 27; refine HJ.out.mono ?_; rintro e w3 ⟨r, x, S', R', rfl, hj, hA3, hs3⟩; obtain ⟨k1, k2⟩ := kept2 hs3 HLT.out H2.out.ne HLB.out HNB.out; have e0 := (k1 0).trans c0; have e1 := (k1 1).trans c1; have e2 := (k2 0).trans b0; have e3 := (k2 1).trans b1; have e4 := (k2 2).trans b2; have e5 := (k2 3).trans b3; clear k1 k2))
    obtain ⟨A', hm, hd⟩ := H2.out.rel.joinG (n := n) H2.out.ht HQ0.out.1.1 HQ0.out.2.1.1 HQ0.out.2.2.1.1 HQ0.out.2.2.2.1 HQ0.out.1.2 HQ0.out.2.1.2 HQ0.out.2.2.1.2 HQ0.out.2.2.2.2 HL.out.1 HL.out.2.1 HL.out.2.2.1 HL.out.2.2.2 hn hj
    have HM := Lib.hid hm
    have HD : Hid (x = 0 → Has S' A' t r (.node a b c d)) := fun e => ⟨hd e, has_nodes fun y hy => ((hm.ok e).2.1 y).2 (.inr hy)⟩
    have HE := Lib.hid (H2.out.drew.step hA3 hs3 hm.st x)
    have HS3 := Lib.hid ((HS2.out.toH (fun b => b = hb)).drew.trans (H2.out.drew.stepH hs3 x))
    have e6 := (hs3.mod.cell (a := ⟨hb, 2, none⟩) HLT.out H2.out.ne).trans (H2.out.drew.c2)
    have f6 := (hs3.mod.frozen (a := ⟨hb, 2, none⟩) HLT.out H2.out.ne).trans (H2.out.drew.f 2)
    clear hm hd hj hA3 hs3 e0 e1 e2 e3 e4 e5 c0 c1 b0 b1 b2 b3
    go_wp2_with fail
    go_returns
    exact ⟨r, S', A', R', x, rfl, HM.out, HD.out, HE.out, HS3.out⟩
  · have hb1 : (bad == 0) = false := beq_eq_false_iff_ne.2 hb0
    have HB0 := Lib.hid hb0
    clear hb0
    go_enter Try.func50, Try.ntmps50
    go_wp2_with fail
    go_returns
    exact ⟨0, S, A, R, bad, rfl, Made.none H.out.rel t HB0.out _, fun e => absurd e HB0.out, H2.out, HS2.out.toH _⟩
end Go.Proofs.Ytdbhddkkcchmmaa

namespace Go.Proofs.Ytdbhddkkcchmmaa
open Go.RowKit

theorem kids_has {S : ArS} {A : Nat → Abs} {t : Nat} {id : Int} {a b c d : Tree} {e : Ending} (hr : Rel S A) (ht : t < 64) (h : Has S A t id (.node a b c d)) (hk : kidsA S t id e) :
    ∃ k0 k1 k2 k3 : Int, e = .returned (.tuple #[.agg #[.int .i64 k0, .int .i64 k1, .int .i64 k2, .int .i64 k3], .int .i64 0]) ∧ Has S A t k0 a ∧ Has S A t k1 b ∧ Has S A t k2 c ∧ Has S A t k3 d := by
  obtain ⟨hd, hh⟩ := h
  have ho := hr.owns ht hd
  have hm : Thing.sq a b c d ∈ (A t).have_ := of_decide_eq_true hh
  obtain ⟨h0, h1, h2, h3⟩ := (hr.ok t ht).closed _ hm
  rw [hh] at ho
  have hd2 := hd
  simp only [Den] at hd
  obtain ⟨i, en, rfl, g1, g2, g3, g4, d0, d1, d2, d3⟩ := hd
  rcases hk with ⟨hk, _⟩ | ⟨i', en', q1, q2, q3, q4, rfl⟩
  · rcases hk with hk | hk
    · rw [ho] at hk; cases hk
    · have := hr.inv.two g2; omega
  · have : i = i' := by omega
    subst this
    rw [g1] at q3; cases q3
    exact ⟨_, _, _, _, rfl, ⟨d0, h0⟩, ⟨d1, h1⟩, ⟨d2, h2⟩, ⟨d3, h3⟩⟩
def KidsPost (w : World) (hb : Nat) (ty : TypeId) (more : List Value) (p : Nat) (R : ArR) (S : ArS) (A : Nat → Abs) (t : Nat) (bad : Int) (a b c d : Tree) (e : Ending) (w' : World) : Prop :=
  ∃ k0 k1 k2 k3 : Int, e = .returned (.agg #[.int .i64 k0, .int .i64 k1, .int .i64 k2, .int .i64 k3]) ∧ (bad = 0 → Has S A t k0 a ∧ Has S A t k1 b ∧ Has S A t k2 c ∧ Has S A t k3 d) ∧ (bad ≠ 0 → k0 = 0 ∧ k1 = 0 ∧ k2 = 0 ∧ k3 = 0) ∧ Hd w' hb ty more p R S A t bad ∧ StepH (fun b => b = hb) p R R w w'

/-- A row of four numbers is copied out of a call. -/
structure Mid4 (w : World) (hb : Nat) (ty : TypeId) (more : List Value) (p : Nat) (R : ArR) (S : ArS) (A : Nat → Abs) (t : Nat) (k0 k1 k2 k3 : Int) (w5 : World) (qb : Nat) : Prop where
  hd : Hd w5 hb ty more p R S A t 0
  q : Blk w5 qb 51 #[.int .i64 k0, .int .i64 k1, .int .i64 k2, .int .i64 k3]
  r : Blk w5 w.heap.size 51 #[.int .i64 0, .int .i64 0, .int .i64 0, .int .i64 0]
  ne1 : qb ≠ w.heap.size
  ne2 : hb ≠ qb
  ne3 : hb ≠ w.heap.size
  st : StepH (fun b => b = hb) p R R w w5
section
variable {w w2 w3 : World} {hb : Nat} {ty : TypeId} {more : List Value} {p : Nat} {R : ArR} {S : ArS} {A : Nat → Abs} {t : Nat} {k0 k1 k2 k3 : Int}
theorem StepH.below {X : Nat → Prop} {R' : ArR} (h : StepH X p R R' w w2) (hb : Below w2.heap.size w2 w3) : StepH X p R R' w w3 := h.trans (StepH.of_below hb)
theorem mid4_a (H : Hd w hb ty more p R S A t 0) (H2 : Hd w2 hb ty more p R S A t 0) (hs : StepH (fun b => b = hb) p R R w w2) (hr : Blk w2 w.heap.size 51 #[.int .i64 0, .int .i64 0, .int .i64 0, .int .i64 0]) (hb3 : Below w2.drew.heap.size w2.drew w3) :
    Mid4 w hb ty more p R S A t k0 k1 k2 k3 (w3.alloc (.cells #[.int .i64 k0, .int .i64 k1, .int .i64 k2, .int .i64 k3] 51)) w3.heap.size := by
  have h1 := hr.lt
  have h2 := hb3.size
  have h3 := H.blk.lt
  have h4 : w2.heap.size ≤ w3.heap.size := h2
  exact ⟨(H2.drew.below hb3).alloc _, Blk.new _ _ _, (hr.drew.mod (Mod.of_below_all hb3) (fun h => h)).alloc _, by omega, by omega, by omega, (hs.drew.below hb3).alloc _⟩
theorem keep_w4 {z : Nat} {v0 v1 : Value} (hne : hb ≠ z) (e0 : w.cell? ⟨hb, 0, none⟩ = some v0) (e1 : w.cell? ⟨hb, 1, none⟩ = some v1) (u0 u1 u2 u3 : Value) :
    ((((w.setCell ⟨z, 0, none⟩ u0).setCell ⟨z, 1, none⟩ u1).setCell ⟨z, 2, none⟩ u2).setCell ⟨z, 3, none⟩ u3).cell? ⟨hb, 0, none⟩ = some v0 ∧ ((((w.setCell ⟨z, 0, none⟩ u0).setCell ⟨z, 1, none⟩ u1).setCell ⟨z, 2, none⟩ u2).setCell ⟨z, 3, none⟩ u3).cell? ⟨hb, 1, none⟩ = some v1 := by
  have key : ∀ j, ((((w.setCell ⟨z, 0, none⟩ u0).setCell ⟨z, 1, none⟩ u1).setCell ⟨z, 2, none⟩ u2).setCell ⟨z, 3, none⟩ u3).cell? ⟨hb, j, none⟩ = w.cell? ⟨hb, j, none⟩ := fun j =>
    World.cell?_of_block (a := ⟨hb, j, none⟩) (by
      show _ = w.heap[hb]?
      rw [Below.heap_setCell _ _ _ _ hne, Below.heap_setCell _ _ _ _ hne, Below.heap_setCell _ _ _ _ hne, Below.heap_setCell _ _ _ _ hne])
  exact ⟨(key 0).trans e0, (key 1).trans e1⟩
theorem mid4_b (H : Hd w hb ty more p R S A t 0) (H2 : Hd w2 hb ty more p R S A t 0) (hs : StepH (fun b => b = hb) p R R w w2) (hr : Blk w2 w.heap.size 51 #[.int .i64 0, .int .i64 0, .int .i64 0, .int .i64 0])
    (hb3 : Below (w2.alloc (.cells #[.int .i64 0, .int .i64 0, .int .i64 0, .int .i64 0] 51)).drew.heap.size (w2.alloc (.cells #[.int .i64 0, .int .i64 0, .int .i64 0, .int .i64 0] 51)).drew w3) :
    Mid4 w hb ty more p R S A t k0 k1 k2 k3 ((((w3.setCell ⟨w2.heap.size, 0, none⟩ (.int .i64 k0)).setCell ⟨w2.heap.size, 1, none⟩ (.int .i64 k1)).setCell ⟨w2.heap.size, 2, none⟩ (.int .i64 k2)).setCell ⟨w2.heap.size, 3, none⟩ (.int .i64 k3)) w2.heap.size := by
  have h1 := hr.lt
  have h3 := H.blk.lt
  have hm := Mod.of_below_all hb3
  have hz := ((Blk.new w2 51 #[.int .i64 0, .int .i64 0, .int .i64 0, .int .i64 0]).drew.mod hm (fun h => h))
  have hz4 := (((hz.set 0 (.int .i64 k0)).set 1 (.int .i64 k1)).set 2 (.int .i64 k2)).set 3 (.int .i64 k3)
  have h5 := (H2.alloc (.cells #[.int .i64 0, .int .i64 0, .int .i64 0, .int .i64 0] 51)).drew.below hb3
  have hm4 : Mod (fun b => b = w2.heap.size) w3 ((((w3.setCell ⟨w2.heap.size, 0, none⟩ (.int .i64 k0)).setCell ⟨w2.heap.size, 1, none⟩ (.int .i64 k1)).setCell ⟨w2.heap.size, 2, none⟩ (.int .i64 k2)).setCell ⟨w2.heap.size, 3, none⟩ (.int .i64 k3)) :=
    ((((Mod.refl (fun b => b = w2.heap.size) w3).set (p := ⟨w2.heap.size, 0, none⟩) (fun _ => rfl) _).set (p := ⟨w2.heap.size, 1, none⟩) (fun _ => rfl) _).set (p := ⟨w2.heap.size, 2, none⟩) (fun _ => rfl) _).set (p := ⟨w2.heap.size, 3, none⟩) (fun _ => rfl) _
  have h6 : ¬ Own p R w2.heap.size := fun ho => Nat.lt_irrefl _ (H2.arm.own_lt ho)
  have h7 := hs.mod.size
  have h8 := hb3.size
  have h9 : w2.heap.size < w3.heap.size := hz.lt
  refine ⟨h5.keep hm4 (fun b hb e => by subst e; exact h6 hb) (by omega), hz4, ?_, by omega, by omega, by omega, ?_⟩
  · exact (((hr.alloc _).drew.mod hm (fun h => h)).mod hm4 (by omega))
  · have s1 := (hs.alloc (.cells #[.int .i64 0, .int .i64 0, .int .i64 0, .int .i64 0] 51)).drew.below hb3
    exact ⟨s1.mod.trans hm4 (fun b hb e => by omega), s1.own⟩
theorem Mid4.set {w5 : World} {qb : Nat} (h : Mid4 w hb ty more p R S A t k0 k1 k2 k3 w5 qb) : Mid4 w hb ty more p R S A t k0 k1 k2 k3 (w5.setCell ⟨hb, 2, none⟩ (.int .i64 0)) qb :=
  ⟨⟨h.hd.arm.far (q := ⟨hb, 2, none⟩) h.hd.ne _, by rw [← handC_set p t 0 0 more]; exact h.hd.blk.set 2 _, h.hd.ne, h.hd.rel, h.hd.add, h.hd.ht⟩, h.q.far (p := ⟨hb, 2, none⟩) (Ne.symm h.ne2) _, h.r.far (p := ⟨hb, 2, none⟩) (Ne.symm h.ne3) _, h.ne1, h.ne2, h.ne3, h.st.set (q := ⟨hb, 2, none⟩) (fun _ => rfl) _⟩
theorem Mid4.fin {w5 : World} {qb : Nat} (H : Hd w hb ty more p R S A t 0) (h : Mid4 w hb ty more p R S A t k0 k1 k2 k3 w5 qb) (u0 u1 u2 u3 : Value) :
    Blk ((((w5.setCell ⟨w.heap.size, 0, none⟩ u0).setCell ⟨w.heap.size, 1, none⟩ u1).setCell ⟨w.heap.size, 2, none⟩ u2).setCell ⟨w.heap.size, 3, none⟩ u3) w.heap.size 51 #[u0, u1, u2, u3] ∧ Hd ((((w5.setCell ⟨w.heap.size, 0, none⟩ u0).setCell ⟨w.heap.size, 1, none⟩ u1).setCell ⟨w.heap.size, 2, none⟩ u2).setCell ⟨w.heap.size, 3, none⟩ u3) hb ty more p R S A t 0 ∧ StepH (fun b => b = hb) p R R w ((((w5.setCell ⟨w.heap.size, 0, none⟩ u0).setCell ⟨w.heap.size, 1, none⟩ u1).setCell ⟨w.heap.size, 2, none⟩ u2).setCell ⟨w.heap.size, 3, none⟩ u3) := by
  have hm4 : Mod (fun b => b = w.heap.size) w5 ((((w5.setCell ⟨w.heap.size, 0, none⟩ u0).setCell ⟨w.heap.size, 1, none⟩ u1).setCell ⟨w.heap.size, 2, none⟩ u2).setCell ⟨w.heap.size, 3, none⟩ u3) :=
    ((((Mod.refl (fun b => b = w.heap.size) w5).set (p := ⟨w.heap.size, 0, none⟩) (fun _ => rfl) _).set (p := ⟨w.heap.size, 1, none⟩) (fun _ => rfl) _).set (p := ⟨w.heap.size, 2, none⟩) (fun _ => rfl) _).set (p := ⟨w.heap.size, 3, none⟩) (fun _ => rfl) _
  have h6 : ¬ Own p R w.heap.size := fun ho => Nat.lt_irrefl _ (H.arm.own_lt ho)
  exact ⟨(((h.r.set 0 u0).set 1 u1).set 2 u2).set 3 u3, h.hd.keep hm4 (fun b hb e => by subst e; exact h6 hb) h.ne3, h.st.mod.trans hm4 (fun b hb e => by omega), h.st.own⟩
end

set_option maxRecDepth 100000 in
set_option maxHeartbeats 3200000 in
theorem hkids_any (w : World) (hb : Nat) (ty : TypeId) (more : List Value) (p : Nat) (R : ArR) (S : ArS) (A : Nat → Abs) (t : Nat) (bad : Int) (h : Hd w hb ty more p R S A t bad)
    (id : Int) (a b c d : Tree) (hq : bad = 0 → Has S A t id (.node a b c d)) :
    Calls Try.prog 37 #[.pointer (some ⟨hb, 0, none⟩), .int .i64 id] w (KidsPost w hb ty more p R S A t bad a b c d) := by
  have H2 := Lib.hid (h.alloc (.cells #[.int .i64 0, .int .i64 0, .int .i64 0, .int .i64 0] 51))
  have HS2 : Hid (StepH (fun b => b = hb) p R R w (w.alloc (.cells #[.int .i64 0, .int .i64 0, .int .i64 0, .int .i64 0] 51))) := (StepH.refl _ p R w).alloc _
  have HB2 := Lib.hid (Blk.new w 51 #[.int .i64 0, .int .i64 0, .int .i64 0, .int .i64 0])
  have H := Lib.hid h
  have c2 := H2.out.c2
  clear h
  by_cases hb0 : bad = 0
  · subst hb0
    have HQ0 := Lib.hid (hq rfl)
    clear hq
    go_enter Try.func37, Try.ntmps37
    go_wp2_with fail
    clear c2
    generalize World.alloc w _ = w2 at H2 HS2 HB2 ⊢
    have c0 := H2.out.c0
    have c1 := H2.out.c1
    have HK := Lib.hid (fun W hA => kids_any W p R S hA H2.out.inv.len t H2.out.ht id)
    have HLT := Lib.hid H2.out.blk.lt
    have HNE : Hid (hb ≠ w2.heap.size) := by have := HLT.out; show hb ≠ w2.heap.size; omega
    go_region_held3 (fun w' => w'.cell? ⟨hb, 0, none⟩ = some (.pointer (some ⟨p, 0, none⟩)) ∧ w'.cell? ⟨hb, 1, none⟩ = some (.int .i64 t))
      (first | (with_reducible exact ⟨c0, c1⟩) | (with_reducible exact ⟨e0, e1⟩) | (with_reducible exact keep_w4 HNE.out e0 e1 _ _ _ _) | go_keep)
      (first
        | (go_at_call 54; refine (HK.out _ (by exact H2.out.arm.drew)).mono ?_; rintro e w3 ⟨hk, hb3⟩; obtain ⟨k0, k1, k2, k3, rfl, h0, h1, h2, h3⟩ := kids_has H2.out.rel H2.out.ht HQ0.out hk; have e0 := (hb3.cell (p := ⟨hb, 0, none⟩) HLT.out).trans c0; have e1 := (hb3.cell (p := ⟨hb, 1, none⟩) HLT.out).trans c1; have HM := Lib.hid (mid4_a (k0 := k0) (k1 := k1) (k2 := k2) (k3 := k3) H.out H2.out HS2.out HB2.out hb3))
        | (go_at_call 54; refine (HK.out _ (by exact (H2.out.arm.alloc _).drew)).mono ?_; rintro e w3 ⟨hk, hb3⟩; obtain ⟨k0, k1, k2, k3, rfl, h0, h1, h2, h3⟩ := kids_has H2.out.rel H2.out.ht HQ0.out hk; have hlt1 : (⟨hb, 0, none⟩ : Addr).block < (w2.alloc (.cells #[.int .i64 0, .int .i64 0, .int .i64 0, .int .i64 0] 51)).drew.heap.size := (H2.out.alloc _).blk.lt; have e0 := (hb3.cell (p := ⟨hb, 0, none⟩) hlt1).trans ((World.cell?_alloc_lt w2 _ ⟨hb, 0, none⟩ HLT.out).trans c0); have e1 := (hb3.cell (p := ⟨hb, 1, none⟩) hlt1).trans ((World.cell?_alloc_lt w2 _ ⟨hb, 1, none⟩ HLT.out).trans c1); have HM := Lib.hid (mid4_b (k0 := k0) (k1 := k1) (k2 := k2) (k3 := k3) H.out H2.out HS2.out HB2.out hb3); have HZ := Lib.hid ((Blk.new w2 51 #[.int .i64 0, .int .i64 0, .int .i64 0, .int .i64 0]).drew.mod (Mod.of_below_all hb3) (fun h => h)); have z0 := HZ.out.cellS (i := 0) rfl; have z1 := HZ.out.cellS (i := 1) rfl; have z2 := HZ.out.cellS (i := 2) rfl; have z3 := HZ.out.cellS (i := 3) rfl; have f0 := HZ.out.frozen 0; have f1 := HZ.out.frozen 1; have f2 := HZ.out.frozen 2; have f3 := HZ.out.frozen 3))
    all_goals clear c0 c1 e0 e1 hk HK HLT HNE H2 HS2 HB2
    all_goals (first
      | (clear z0 z1 z2 z3 f0 f1 f2 f3 HZ
         generalize World.setCell _ _ _ = w5 at HM ⊢
         generalize w2.heap.size = qb at HM ⊢)
      | (generalize World.alloc w3 _ = w5 at HM ⊢
         generalize w3.heap.size = qb at HM ⊢))
    all_goals (
      have c2 := HM.out.hd.c2
      have f2 := HM.out.hd.f 2
      have HM6 := Lib.hid HM.out.set
      have q0 := HM6.out.q.cellS (i := 0) rfl
      have q1 := HM6.out.q.cellS (i := 1) rfl
      have q2 := HM6.out.q.cellS (i := 2) rfl
      have q3 := HM6.out.q.cellS (i := 3) rfl
      have r0 := HM6.out.r.cellS (i := 0) rfl
      have r1 := HM6.out.r.cellS (i := 1) rfl
      have r2 := HM6.out.r.cellS (i := 2) rfl
      have r3 := HM6.out.r.cellS (i := 3) rfl
      have g0 := HM6.out.r.frozen 0
      have g1 := HM6.out.r.frozen 1
      have g2 := HM6.out.r.frozen 2
      have g3 := HM6.out.r.frozen 3
      have HF := Lib.hid (HM6.out.fin H.out (.int .i64 k0) (.int .i64 k1) (.int .i64 k2) (.int .i64 k3))
      have H01 : Hid (Has S A t k0 a ∧ Has S A t k1 b ∧ Has S A t k2 c ∧ Has S A t k3 d) := ⟨h0, h1, h2, h3⟩
      clear h0 h1 h2 h3
      go_wp2_with fail
      clear c2 f2 q0 q1 q2 q3 r0 r1 r2 r3 g0 g1 g2 g3 HM6
      generalize World.setCell _ _ _ = w7 at HF ⊢
      have s0 : w7.cell? ⟨w.heap.size, 0, none⟩ = some (.int .i64 k0) := HF.out.1.cellS (i := 0) rfl
      have s1 : w7.cell? ⟨w.heap.size, 1, none⟩ = some (.int .i64 k1) := HF.out.1.cellS (i := 1) rfl
      have s2 : w7.cell? ⟨w.heap.size, 2, none⟩ = some (.int .i64 k2) := HF.out.1.cellS (i := 2) rfl
      have s3 : w7.cell? ⟨w.heap.size, 3, none⟩ = some (.int .i64 k3) := HF.out.1.cellS (i := 3) rfl
      exact bodyPost_ret (v := .agg #[.int .i64 k0, .int .i64 k1, .int .i64 k2, .int .i64 k3]) (by simp [results, Try.results37, go_sem, s0, s1, s2, s3]) rfl ⟨k0, k1, k2, k3, rfl, fun _ => H01.out, fun e => absurd rfl e, HF.out.2.1, HF.out.2.2⟩)
  · have hb1 : (bad == 0) = false := beq_eq_false_iff_ne.2 hb0
    have HB0 := Lib.hid hb0
    clear hb0 hq
    go_enter Try.func37, Try.ntmps37
    go_wp2_with fail
    go_returns
    exact ⟨0, 0, 0, 0, rfl, fun e => absurd e HB0.out, fun _ => ⟨rfl, rfl, rfl, rfl⟩, H2.out, HS2.out⟩
end Go.Proofs.Ytdbhddkkcchmmaa

namespace Go.Proofs.Ytdbhddkkcchmmaa
open Go.RowKit

def LevelPost (w : World) (hb : Nat) (ty : TypeId) (more : List Value) (p : Nat) (R : ArR) (S : ArS) (A : Nat → Abs) (t : Nat) (bad : Int) (T : Tree) (e : Ending) (w' : World) : Prop :=
  ∃ n : Int, e = .returned (.int .i64 n) ∧ (bad = 0 → n = T.lvl) ∧ Hd w' hb ty more p R S A t bad ∧ StepH (fun b => b = hb) p R R w w'

set_option maxRecDepth 100000 in
set_option maxHeartbeats 3200000 in
theorem hlevel_any (w : World) (hb : Nat) (ty : TypeId) (more : List Value) (p : Nat) (R : ArR) (S : ArS) (A : Nat → Abs) (t : Nat) (bad : Int) (h : Hd w hb ty more p R S A t bad)
    (id : Int) (T : Tree) (hq : bad = 0 → Has S A t id T) :
    Calls Try.prog 33 #[.pointer (some ⟨hb, 0, none⟩), .int .i64 id] w (LevelPost w hb ty more p R S A t bad T) := by
  have H := Lib.hid h
  have c2 := h.c2
  clear h
  by_cases hb0 : bad = 0
  · subst hb0
    have HQ0 := Lib.hid (hq rfl)
    clear hq
    have c0 := H.out.c0
    have c1 := H.out.c1
    have hk := level_any w.drew p R S H.out.arm.drew H.out.inv.len t H.out.ht id
    rw [if_pos (by rw [H.out.rel.owns H.out.ht HQ0.out.1]; exact HQ0.out.2)] at hk
    have HK := Lib.hid hk
    clear hk
    have HN := Lib.hid (HQ0.out.1.level H.out.inv)
    have f2 := H.out.f 2
    have HE : Hid (Hd (w.drew.setCell ⟨hb, 2, none⟩ (.int .i64 0)) hb ty more p R S A t 0) := H.out.drew.step H.out.arm.drew (Step.refl p R w.drew) (St.refl H.out.rel t) 0
    have HS3 : Hid (StepH (fun b => b = hb) p R R w (w.drew.setCell ⟨hb, 2, none⟩ (.int .i64 0))) := ((StepH.refl (fun b => b = hb) p R w).drew).set (q := ⟨hb, 2, none⟩) (fun _ => rfl) _
    go_enter Try.func33, Try.ntmps33
    go_wp2_with fail
    go_region_held3 (fun w' => w'.cell? ⟨hb, 0, none⟩ = some (.pointer (some ⟨p, 0, none⟩)) ∧ w'.cell? ⟨hb, 1, none⟩ = some (.int .i64 t))
      (first | (with_reducible exact ⟨c0, c1⟩) | go_keep)
      ((go_at_call 53; refine HK.out.mono ?_; rintro e w3 ⟨rfl, rfl⟩))
    go_wp2_with fail
    go_returns
    exact ⟨_, rfl, fun _ => HN.out, HE.out, HS3.out⟩
  · have hb1 : (bad == 0) = false := beq_eq_false_iff_ne.2 hb0
    have HB0 := Lib.hid hb0
    clear hb0 hq
    go_enter Try.func33, Try.ntmps33
    go_wp2_with fail
    go_returns
    exact ⟨0, rfl, fun e => absurd e HB0.out, H.out, StepH.refl _ p R w⟩

set_option maxRecDepth 100000 in
set_option maxHeartbeats 3200000 in
theorem done_any (w : World) (hb : Nat) (bad : Int) (c2 : w.cell? ⟨hb, 2, none⟩ = some (.int .i64 bad)) (id : Int) :
    Calls Try.prog 30 #[.pointer (some ⟨hb, 0, none⟩), .int .i64 id] w fun e w' => e = .returned (.tuple #[.int .i64 (if bad = 0 then id else 0), .int .i64 bad]) ∧ Below w.heap.size w w' := by
  by_cases hb0 : bad = 0
  · subst hb0
    rw [if_pos rfl]
    go_enter Try.func30, Try.ntmps30
    go_wp2_with fail
    go_returns
    exact ⟨rfl, Below.refl _ _⟩
  · rw [if_neg hb0]
    have hb1 : (bad == 0) = false := beq_eq_false_iff_ne.2 hb0
    clear hb0
    go_enter Try.func30, Try.ntmps30
    go_wp2_with fail
    go_region_held3 (fun w' => w'.cell? ⟨hb, 2, none⟩ = some (.int .i64 bad)) (first | exact c2 | go_keep) (fail)
    go_wp2_with fail
    go_returns
    exact ⟨rfl, (Below.refl _ _).drew⟩

theorem pow_i64 {n : Nat} (h : n ≤ 61) : (2 : Int) ^ n ≤ 2305843009213693952 := by
  have := Nat.pow_le_pow_right (n := 2) (by decide) h
  have h2 : ((2 ^ n : Nat) : Int) ≤ ((2 ^ 61 : Nat) : Int) := Int.ofNat_le.2 this
  rw [show (2 : Nat) ^ 61 = 2305843009213693952 by decide] at h2
  simpa using h2

set_option maxRecDepth 100000 in
theorem half_any (w : World) (n : Nat) (hn : n ≤ 61) : Calls Try.prog 29 #[.int .i64 ((n : Int) + 1)] w fun e w' => e = .returned (.int .i64 (2 ^ n)) ∧ w = w' := by
  have h1 := pow_i64 hn
  have h2 := pow_pos2 n
  go_enter Try.func29, Try.ntmps29
  go_wp2_with fail
  go_returns
  exact ⟨rfl, rfl⟩

/-- The work so far on the empty squares. -/
structure EmptyI (w : World) (hb : Nat) (ty : TypeId) (more : List Value) (p : Nat) (R : ArR) (S : ArS) (A : Nat → Abs) (t : Nat) (bad : Int) (i : Nat) (r : Int) (S' : ArS) (A' : Nat → Abs) (R' : ArR) (bad' : Int) (w' : World) : Prop where
  made : Made t (nodes (emptyT i)) S A bad S' A' bad'
  has : bad' = 0 → Has S' A' t r (emptyT i)
  hd : Hd w' hb ty more p R' S' A' t bad'
  st : StepH (fun b => b = hb) p R R' w w'
theorem Has.dead {S : ArS} {A : Nat → Abs} {t : Nat} : Has S A t 0 .dead := ⟨by simp only [Den], rfl⟩
theorem Has.alive {S : ArS} {A : Nat → Abs} {t : Nat} : Has S A t 1 .alive := ⟨by simp only [Den], rfl⟩
theorem Made.next {S S1 S2 : ArS} {A A1 A2 : Nat → Abs} {t : Nat} {L L1 : List Thing} {bad bad1 bad2 : Int} (h : Made t L S A bad S1 A1 bad1) (k : Made t L1 S1 A1 bad1 S2 A2 bad2) (hl : ∀ x ∈ L, x ∈ L1) : Made t L1 S A bad S2 A2 bad2 :=
  (h.trans k).of (fun x hx => by
    rcases List.mem_append.1 hx with a | a
    · exact hl x a
    · exact a) (fun _ x hx => .inl (List.mem_append_right _ hx))
theorem nodes_blank (i : Nat) : ∀ x ∈ nodes (emptyT i), x ∈ nodes (emptyT (i + 1)) := fun x hx => by
  rw [nodes_emptyT] at hx ⊢; exact List.mem_cons_of_mem _ hx

set_option maxRecDepth 100000 in
set_option maxHeartbeats 3200000 in
theorem hempty_any (w : World) (hb : Nat) (ty : TypeId) (more : List Value) (p : Nat) (R : ArR) (S : ArS) (A : Nat → Abs) (t : Nat) (bad : Int) (h : Hd w hb ty more p R S A t bad) (n : Nat) (hn : n ≤ 44) :
    Calls Try.prog 49 #[.pointer (some ⟨hb, 0, none⟩), .int .i64 n] w (HandPost w hb ty more p R S A t bad (emptyT n)) := by
  have H := Lib.hid h
  clear h
  go_enter Try.func49, Try.ntmps49
  go_wp2_with fail
  go_loopw [5, 7] (fun r iv wx => ∃ (i : Nat) (rn : Int) (S' : ArS) (A' : Nat → Abs) (R' : ArR) (bad' : Int), iv = .int .i64 i ∧ i ≤ n ∧ r = .int .i64 rn ∧ EmptyI w hb ty more p R S A t bad i rn S' A' R' bad' wx) (fun _ iv _ => n - (intOf iv).toNat)
  case atStart => exact ⟨0, 0, S, A, R, bad, rfl, Nat.zero_le _, rfl, Made.refl H.out.rel t bad, fun _ => Has.dead, H.out, StepH.refl _ p R w⟩
  case round =>
    obtain ⟨i, rn, S', A', R', bad', rfl, hi, rfl, hE⟩ := hrel
    have HE := Lib.hid hE
    clear hE
    by_cases hin : i < n
    · have hlt : (i : Int) < n := by omega
      have hwi := wrap_nat' i (by unfold maxLen; omega)
      have HI := Lib.hid hin
      have HJ := Lib.hid (hjoin_any wr hb ty more p R' S' A' t bad' HE.out.hd rn rn rn rn (emptyT i) (emptyT i) (emptyT i) (emptyT i) i (fun e => ⟨HE.out.has e, HE.out.has e, HE.out.has e, HE.out.has e⟩) ⟨emptyT_lvl i, emptyT_lvl i, emptyT_lvl i, emptyT_lvl i⟩ (by omega))
      clear hin hi
      go_wp2_with fail
      (with_reducible refine HJ.out.mono ?_)
      rintro e w3 ⟨r, S2, A2, R2, bad2, rfl, hm, hh, hd, hst⟩
      have HE2 : Hid (EmptyI w hb ty more p R S A t bad (i + 1) r S2 A2 R2 bad2 w3) := ⟨HE.out.made.next hm (nodes_blank i), hh, hd, HE.out.st.trans hst⟩
      clear hm hh hd hst HJ
      go_wp2_with fail
      go_roundw
      case rel => exact ⟨i + 1, r, S2, A2, R2, bad2, by go_num, HI.out, rfl, HE2.out⟩
      case measure => simp [intOf]; have := HI.out; omega
    · have hi5 : i = n := by omega
      subst hi5
      clear hin hi
      go_wp2_with fail
      go_returns
      exact ⟨rn, S', A', R', bad', rfl, HE.out.made, HE.out.has, HE.out.hd, HE.out.st⟩
end Go.Proofs.Ytdbhddkkcchmmaa
