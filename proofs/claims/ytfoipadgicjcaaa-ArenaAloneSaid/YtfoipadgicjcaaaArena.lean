/- An arena in memory. -/
import Derived.Test.YtfoipadgicjcaaaHeapp
import Derived.DeepKeys4
import Derived.Maps.OwnSet
namespace Go.Proofs.Ytfoipadgicjcaaa
open Go.RowKit Go.ChangeMaps Go.WideElems Go.WideMaps

structure KeyA where
  kind : Int
  a0 : Int
  a1 : Int
  a2 : Int
  a3 : Int
  deriving DecidableEq
structure EntD where
  key : KeyA
  level : Int
  value : Int
  mask : Nat
def entV (e : EntD) : List Value := [.int .i64 e.key.kind, .int .i64 e.key.a0, .int .i64 e.key.a1, .int .i64 e.key.a2, .int .i64 e.key.a3, .int .i64 e.level, .int .i64 e.value, .int .u64 (e.mask : Int)]
def entsV (l : List EntD) : List Value := l.flatMap entV
theorem entsV_len (l : List EntD) : (entsV l).length = l.length * 8 := by
  induction l with
  | nil => rfl
  | cons a l ih => rw [entsV, List.flatMap_cons, List.length_append, ← entsV, ih]; simp [entV]; omega
theorem entsV_at : ∀ (K : List EntD) (i : Nat) (k : EntD), K[i]? = some k → ∀ j, j < 8 → (entsV K)[i * 8 + j]? = (entV k)[j]?
  | [], i, k, h => by simp at h
  | a :: K, 0, k, h => fun j hj => by
    simp at h; subst h
    rw [entsV, List.flatMap_cons, List.getElem?_append_left (by simp [entV]; omega), Nat.zero_mul, Nat.zero_add]
  | a :: K, i + 1, k, h => fun j hj => by
    simp at h
    rw [entsV, List.flatMap_cons, List.getElem?_append_right (by simp [entV]; omega), ← entsV_at K i k h j hj]
    simp only [entV, List.length_cons, List.length_nil]
    congr 1; omega
abbrev EN := 99
abbrev AR := 92

/-- What an arena holds. -/
structure ArS where
  room : Int
  ents : List EntD
  idx : KeyA → Option Int
  size : Nat
  free : List Int
  count : Nat → Int
  quota : Nat → Int
  added : Nat → List Int
  live : Int
/-- Where it holds it. -/
structure ArR where
  lv : Value
  mb : Nat
  fv : Value
  av : Nat → Value
def arC (R : ArR) (S : ArS) (j : Nat) : Value :=
  if j = 0 then .int .i64 S.room else if j = 1 then R.lv else if j = 2 then .map (some R.mb) else if j = 3 then R.fv else if j < 68 then .int .i64 (S.count (j - 4)) else if j < 132 then .int .i64 (S.quota (j - 68)) else if j < 196 then R.av (j - 132) else .int .i64 S.live
def arCells (R : ArR) (S : ArS) : Array Value := Array.ofFn (n := 197) fun i => arC R S i
theorem arCells_at (R : ArR) (S : ArS) (j : Nat) (h : j < 197) : (arCells R S)[j]? = some (arC R S j) := by simp [arCells, h]
def upd {α : Type} (f : Nat → α) (t : Nat) (x : α) : Nat → α := fun k => if k = t then x else f k
theorem arCells_set {R R' : ArR} {S S' : ArS} {o : Nat} {u : Value} (ho : o < 197) (h1 : arC R' S' o = u) (h2 : ∀ j, j < 197 → j ≠ o → arC R' S' j = arC R S j) : (arCells R S).setIfInBounds o u = arCells R' S' := by
  apply Array.ext (by simp [arCells])
  intro j hj hj'
  have hj197 : j < 197 := by simpa [arCells] using hj'
  rw [Array.getElem_setIfInBounds (by simp [arCells]; omega)]
  by_cases e : o = j
  · subst e; rw [if_pos rfl]; simp [arCells, h1]
  · rw [if_neg e]; simp [arCells, h2 j hj197 (Ne.symm e)]

set_option maxRecDepth 100000 in
theorem tenant_any (w : World) (t : Int) : Calls Try.prog 42 #[.int .i64 t] w fun e w' => e = .returned (.bool (decide (0 ≤ t ∧ t < 64))) ∧ w = w' := by
  go_enter Try.func42, Try.ntmps42
  by_cases h : 0 ≤ t ∧ t < 64
  · obtain ⟨h1, h2⟩ := h
    go_wp2_with fail
    go_ret
    exact ⟨by simp [h1, h2], rfl⟩
  · by_cases h1 : 0 ≤ t
    · have h2 : ¬ t < 64 := fun h2 => h ⟨h1, h2⟩
      clear h
      go_wp2_with fail
      go_ret
      exact ⟨by simp [h1]; omega, rfl⟩
    · clear h
      go_wp2_with fail
      go_ret
      exact ⟨by rw [decide_eq_false (show ¬ (0 ≤ t) by omega)]; rfl, rfl⟩

end Go.Proofs.Ytfoipadgicjcaaa
