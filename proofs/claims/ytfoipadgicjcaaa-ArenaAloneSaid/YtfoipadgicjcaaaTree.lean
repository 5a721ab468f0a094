/- What the squares of an arena are: trees. -/
import Derived.Test.YtfoipadgicjcaaaArOps
import Derived.Test.YtfoipadgicjcaaaArUndo
namespace Go.Proofs.Ytfoipadgicjcaaa
open Go.RowKit

inductive Tree where
  | dead : Tree
  | alive : Tree
  | node (a b c d : Tree) : Tree
  deriving DecidableEq
def Tree.lvl : Tree → Int
  | .dead => 0
  | .alive => 0
  | .node a _ _ _ => a.lvl + 1
inductive Thing where
  | sq (a b c d : Tree) : Thing
  | note (x : Tree) (r j : Int) : Thing
  deriving DecidableEq
/-- A number is a tree. -/
def Den (S : ArS) : Int → Tree → Prop
  | id, .dead => id = 0
  | id, .alive => id = 1
  | id, .node a b c d => ∃ (i : Nat) (e : EntD), id = i ∧ S.ents[i]? = some e ∧ S.idx e.key = some (i : Int) ∧ e.key.kind = 0 ∧ e.level = a.lvl + 1 ∧ Den S e.key.a0 a ∧ Den S e.key.a1 b ∧ Den S e.key.a2 c ∧ Den S e.key.a3 d
/-- An entry is a thing. -/
def DenT (S : ArS) (i : Nat) : Thing → Prop
  | .sq a b c d => Den S i (.node a b c d)
  | .note x r j => ∃ e, S.ents[i]? = some e ∧ S.idx e.key = some (i : Int) ∧ e.key.kind = 1 ∧ e.key.a1 = r ∧ e.key.a2 = j ∧ e.key.a3 = 0 ∧ Den S e.key.a0 x
section
variable {S : ArS}
theorem Inv.two (h : Inv S) {k : KeyA} {i : Nat} (hx : S.idx k = some (i : Int)) : 2 ≤ i := by
  obtain ⟨j, _, h1, h2, _⟩ := h.idx _ _ hx
  omega
theorem Den.fn (h : Inv S) : ∀ {x y : Tree} {id : Int}, Den S id x → Den S id y → x = y
  | .dead, .dead, _, _, _ => rfl
  | .alive, .alive, _, _, _ => rfl
  | .dead, .alive, id, h1, h2 => by simp only [Den] at h1 h2; omega
  | .alive, .dead, id, h1, h2 => by simp only [Den] at h1 h2; omega
  | .dead, .node .., id, h1, h2 => by
    simp only [Den] at h1 h2; obtain ⟨i, e, h3, h4, h5, _⟩ := h2; have := h.two h5; omega
  | .alive, .node .., id, h1, h2 => by
    simp only [Den] at h1 h2; obtain ⟨i, e, h3, h4, h5, _⟩ := h2; have := h.two h5; omega
  | .node .., .dead, id, h2, h1 => by
    simp only [Den] at h1 h2; obtain ⟨i, e, h3, h4, h5, _⟩ := h2; have := h.two h5; omega
  | .node .., .alive, id, h2, h1 => by
    simp only [Den] at h1 h2; obtain ⟨i, e, h3, h4, h5, _⟩ := h2; have := h.two h5; omega
  | .node a b c d, .node a' b' c' d', id, h1, h2 => by
    simp only [Den] at h1 h2
    obtain ⟨i, e, h3, h4, h5, h6, h7, g0, g1, g2, g3⟩ := h1
    obtain ⟨i', e', h3', h4', h5', h6', h7', g0', g1', g2', g3'⟩ := h2
    have hi : i = i' := by omega
    subst hi
    rw [h4] at h4'; cases h4'
    rw [Den.fn h g0 g0', Den.fn h g1 g1', Den.fn h g2 g2', Den.fn h g3 g3']
theorem KeyA.ext {k k' : KeyA} (h : k.kind = k'.kind) (h0 : k.a0 = k'.a0) (h1 : k.a1 = k'.a1) (h2 : k.a2 = k'.a2) (h3 : k.a3 = k'.a3) : k = k' := by
  cases k; cases k'; simp at h h0 h1 h2 h3; subst h h0 h1 h2 h3; rfl
theorem Den.inj : ∀ {x : Tree} {i j : Int}, Den S i x → Den S j x → i = j
  | .dead, i, j, h1, h2 => by simp only [Den] at h1 h2; omega
  | .alive, i, j, h1, h2 => by simp only [Den] at h1 h2; omega
  | .node a b c d, id, jd, h1, h2 => by
    simp only [Den] at h1 h2
    obtain ⟨i, e, rfl, h4, h5, h6, h7, g0, g1, g2, g3⟩ := h1
    obtain ⟨i', e', rfl, h4', h5', h6', h7', g0', g1', g2', g3'⟩ := h2
    have hk : e.key = e'.key := KeyA.ext (h6.trans h6'.symm) (Den.inj g0 g0') (Den.inj g1 g1') (Den.inj g2 g2') (Den.inj g3 g3')
    rw [hk, h5'] at h5
    exact (Option.some.inj h5).symm
theorem Den.level (h : Inv S) : ∀ {x : Tree} {id : Int}, Den S id x → levelOf S id = x.lvl
  | .dead, id, h1 => by simp only [Den] at h1; subst h1; unfold levelOf; simp [h.zero.1, zeroE, Tree.lvl]
  | .alive, id, h1 => by simp only [Den] at h1; subst h1; unfold levelOf; simp [h.zero.2, zeroE, Tree.lvl]
  | .node a b c d, id, h1 => by
    simp only [Den] at h1
    obtain ⟨i, e, rfl, h4, h5, h6, h7, _⟩ := h1
    unfold levelOf
    rw [Int.toNat_natCast, h4]
    exact h7
theorem DenT.ent {i : Nat} : ∀ {x : Thing}, DenT S i x → ∃ e, S.ents[i]? = some e ∧ S.idx e.key = some (i : Int)
  | .sq .., h1 => by
    simp only [DenT, Den] at h1
    obtain ⟨j, e, h3, h4, h5, _⟩ := h1
    have : j = i := by omega
    subst this
    exact ⟨e, h4, h5⟩
  | .note .., h1 => by obtain ⟨e, h4, h5, _⟩ := h1; exact ⟨e, h4, h5⟩
theorem DenT.fn (h : Inv S) {i : Nat} : ∀ {x y : Thing}, DenT S i x → DenT S i y → x = y
  | .sq a b c d, .sq a' b' c' d', h1, h2 => by have := Den.fn h h1 h2; injection this with e0 e1 e2 e3; rw [e0, e1, e2, e3]
  | .sq .., .note .., h1, h2 => by
    simp only [DenT, Den] at h1 h2
    obtain ⟨j, e, h3, h4, h5, h6, _⟩ := h1
    obtain ⟨e', h4', h5', h6', _⟩ := h2
    have : j = i := by omega
    subst this
    rw [h4] at h4'; cases h4'; omega
  | .note .., .sq .., h2, h1 => by
    simp only [DenT, Den] at h1 h2
    obtain ⟨j, e, h3, h4, h5, h6, _⟩ := h1
    obtain ⟨e', h4', h5', h6', _⟩ := h2
    have : j = i := by omega
    subst this
    rw [h4] at h4'; cases h4'; omega
  | .note x r j, .note x' r' j', h1, h2 => by
    obtain ⟨e, h4, h5, h6, h7, h8, h9, h10⟩ := h1
    obtain ⟨e', h4', h5', h6', h7', h8', h9', h10'⟩ := h2
    rw [h4] at h4'; cases h4'
    rw [Den.fn h h10 h10', ← h7, ← h8, h7', h8']
theorem DenT.inj {i j : Nat} : ∀ {x : Thing}, DenT S i x → DenT S j x → i = j
  | .sq .., h1, h2 => by have := Den.inj h1 h2; omega
  | .note .., h1, h2 => by
    obtain ⟨e, h4, h5, h6, h7, h8, h9, h10⟩ := h1
    obtain ⟨e', h4', h5', h6', h7', h8', h9', h10'⟩ := h2
    have hk : e.key = e'.key := KeyA.ext (h6.trans h6'.symm) (Den.inj h10 h10') (h7.trans h7'.symm) (h8.trans h8'.symm) (h9.trans h9'.symm)
    rw [hk, h5'] at h5
    have := Option.some.inj h5; omega
/-- What is in the index stays there: so trees stay trees. -/
def Stays (P : EntD → Prop) (S S' : ArS) : Prop := ∀ (i : Nat) e, S.ents[i]? = some e → S.idx e.key = some (i : Int) → P e → ∃ e', S'.ents[i]? = some e' ∧ e'.key = e.key ∧ e'.level = e.level ∧ e'.value = e.value ∧ S'.idx e.key = some (i : Int)
theorem Den.stays {S' : ArS} (h : Stays (fun _ => True) S S') : ∀ {x : Tree} {id : Int}, Den S id x → Den S' id x
  | .dead, _, h1 => h1
  | .alive, _, h1 => h1
  | .node a b c d, id, h1 => by
    simp only [Den] at h1 ⊢
    obtain ⟨i, e, rfl, h4, h5, h6, h7, g0, g1, g2, g3⟩ := h1
    obtain ⟨e', k1, k2, k3, _, k4⟩ := h i e h4 h5 trivial
    refine ⟨i, e', rfl, k1, by rw [k2]; exact k4, by rw [k2]; exact h6, by rw [k3]; exact h7, ?_, ?_, ?_, ?_⟩
    · rw [k2]; exact Den.stays h g0
    · rw [k2]; exact Den.stays h g1
    · rw [k2]; exact Den.stays h g2
    · rw [k2]; exact Den.stays h g3
theorem DenT.stays {S' : ArS} (h : Stays (fun _ => True) S S') {i : Nat} : ∀ {x : Thing}, DenT S i x → DenT S' i x
  | .sq .., h1 => Den.stays h h1
  | .note .., h1 => by
    obtain ⟨e, h4, h5, h6, h7, h8, h9, h10⟩ := h1
    obtain ⟨e', k1, k2, k3, _, k4⟩ := h i e h4 h5 trivial
    refine ⟨e', k1, by rw [k2]; exact k4, by rw [k2]; exact h6, by rw [k2]; exact h7, by rw [k2]; exact h8, by rw [k2]; exact h9, ?_⟩
    rw [k2]; exact Den.stays h h10
end

/-- What one tenant has, and was given since its mark. -/
structure Abs where
  have_ : List Thing
  added : List Thing
def hasT (l : List Thing) : Tree → Bool
  | .dead => true
  | .alive => true
  | .node a b c d => decide (Thing.sq a b c d ∈ l)
def kidsIn (l : List Thing) : Thing → Prop
  | .sq a b c d => hasT l a = true ∧ hasT l b = true ∧ hasT l c = true ∧ hasT l d = true
  | .note x _ _ => hasT l x = true
theorem hasT.mono {l l' : List Thing} (h : ∀ x ∈ l, x ∈ l') : ∀ {t : Tree}, hasT l t = true → hasT l' t = true
  | .dead, _ => rfl
  | .alive, _ => rfl
  | .node .., h1 => by simp only [hasT, decide_eq_true_eq] at h1 ⊢; exact h _ h1
theorem kidsIn.mono {l l' : List Thing} (h : ∀ x ∈ l, x ∈ l') : ∀ {t : Thing}, kidsIn l t → kidsIn l' t
  | .sq .., h1 => ⟨hasT.mono h h1.1, hasT.mono h h1.2.1, hasT.mono h h1.2.2.1, hasT.mono h h1.2.2.2⟩
  | .note .., h1 => hasT.mono h h1
def restL (A : Abs) : List Thing := A.have_.filter fun x => !decide (x ∈ A.added)
structure AOk (A : Abs) : Prop where
  nodup : A.have_.Nodup
  closed : ∀ x ∈ A.have_, kidsIn A.have_ x
  rest : ∀ x ∈ restL A, kidsIn (restL A) x
  added : ∀ x ∈ A.added, x ∈ A.have_

/-- Trees of what is somebody's stay, where what is somebody's stays. -/
theorem Den.staysO {S S' : ArS} (hI : Inv S) (h : Stays (fun e => e.mask ≠ 0) S S') {l : List Thing} (hc : ∀ x ∈ l, kidsIn l x) (ho : ∀ x ∈ l, ∃ (i : Nat) (e : EntD), S.ents[i]? = some e ∧ e.mask ≠ 0 ∧ DenT S i x) :
    ∀ {x : Tree} {id : Int}, hasT l x = true → Den S id x → Den S' id x
  | .dead, _, _, h1 => h1
  | .alive, _, _, h1 => h1
  | .node a b c d, id, hx, h1 => by
    have hm : Thing.sq a b c d ∈ l := of_decide_eq_true hx
    obtain ⟨i', e2, o1, o2, o3⟩ := ho _ hm
    have hij := Den.inj (S := S) h1 o3
    obtain ⟨q0, q1, q2, q3⟩ := hc _ hm
    simp only [Den] at h1 ⊢
    obtain ⟨i, e, rfl, h4, h5, h6, h7, g0, g1, g2, g3⟩ := h1
    have hii : i = i' := by omega
    subst hii
    have hee := Option.some.inj (h4.symm.trans o1)
    subst hee
    obtain ⟨e', k1, k2, k3, _, k4⟩ := h i e h4 h5 o2
    refine ⟨i, e', rfl, k1, by rw [k2]; exact k4, by rw [k2]; exact h6, by rw [k3]; exact h7, ?_, ?_, ?_, ?_⟩
    · rw [k2]; exact Den.staysO hI h hc ho q0 g0
    · rw [k2]; exact Den.staysO hI h hc ho q1 g1
    · rw [k2]; exact Den.staysO hI h hc ho q2 g2
    · rw [k2]; exact Den.staysO hI h hc ho q3 g3
theorem DenT.staysO {S S' : ArS} (hI : Inv S) (h : Stays (fun e => e.mask ≠ 0) S S') {l : List Thing} (hc : ∀ x ∈ l, kidsIn l x) (ho : ∀ x ∈ l, ∃ (i : Nat) (e : EntD), S.ents[i]? = some e ∧ e.mask ≠ 0 ∧ DenT S i x)
    {i : Nat} : ∀ {x : Thing}, x ∈ l → DenT S i x → DenT S' i x
  | .sq .., hx, h1 => Den.staysO hI h hc ho (x := .node ..) (decide_eq_true hx) h1
  | .note .., hx, h1 => by
    obtain ⟨i', e2, o1, o2, o3⟩ := ho _ hx
    have hii := DenT.inj h1 o3
    subst hii
    obtain ⟨e, h4, h5, h6, h7, h8, h9, h10⟩ := h1
    have hee := Option.some.inj (h4.symm.trans o1)
    subst hee
    obtain ⟨e', k1, k2, k3, _, k4⟩ := h i e h4 h5 o2
    refine ⟨e', k1, by rw [k2]; exact k4, by rw [k2]; exact h6, by rw [k2]; exact h7, by rw [k2]; exact h8, by rw [k2]; exact h9, ?_⟩
    rw [k2]; exact Den.staysO hI h hc ho (hc _ hx) h10
end Go.Proofs.Ytfoipadgicjcaaa
