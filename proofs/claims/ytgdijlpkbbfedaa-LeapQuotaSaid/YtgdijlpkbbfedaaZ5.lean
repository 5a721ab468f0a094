/- leap: perfect squares; what a square becomes is what its cells become. No program is named here. · rule.Good. · lifelodgekeep.right. · rule.Lives; lifelodgekeep.right. · leap: a leaper in memory; fail. · leap: blocks of a function's own beside a leaper. · quad: level, empty, done, half. -/
import Derived.Test.YtgdijlpkbbfedaaRows
import Derived.Laws.BitsLemmas
import Derived.Laws.Bits64
import Derived.IntWalk
import Derived.BigGuardPart
import Derived.Deep.RegionHeld3
import Derived.Laws.ResultCell
import Derived.Test.YtgdijlpkbbfedaaZ4
import Derived.Test.YtgdijlpkbbfedaaZ1
import Derived.Test.YtgdijlpkbbfedaaZ2

namespace Go.Proofs.Ytgdijlpkbbfedaa
open Go.RowKit

/-- A square of a level, whole. -/
def Pf : Nat → Tree → Prop
  | 0, T => T = .dead ∨ T = .alive
  | n + 1, T => ∃ a b c d, T = .node a b c d ∧ Pf n a ∧ Pf n b ∧ Pf n c ∧ Pf n d
theorem Pf.lvl : ∀ {n : Nat} {T : Tree}, Pf n T → T.lvl = n
  | 0, T, h => by rcases h with rfl | rfl <;> rfl
  | n + 1, T, h => by
    obtain ⟨a, b, c, d, rfl, ha, _⟩ := h
    simp only [Tree.lvl]; rw [ha.lvl]; omega
theorem Pf.kid {n : Nat} {T : Tree} (h : Pf (n + 1) T) (k : Nat) : Pf n (T.kid k) := by
  obtain ⟨a, b, c, d, rfl, ha, hb, hc, hd⟩ := h
  simp only [Tree.kid]
  split
  · exact ha
  · split
    · exact hb
    · split
      · exact hc
      · exact hd
theorem Pf.eta {n : Nat} {T : Tree} (h : Pf (n + 1) T) : T = .node (T.kid 0) (T.kid 1) (T.kid 2) (T.kid 3) := by
  obtain ⟨a, b, c, d, rfl, _⟩ := h; rfl
theorem Pf.g {n : Nat} {T : Tree} (h : Pf (n + 2) T) (y x : Nat) : Pf n (gT T y x) := (Pf.kid (n := n + 1) h _).kid _
theorem Pf.four {n : Nat} {N : Nat → Nat → Tree} {y x : Nat} (h : ∀ y x, Pf n (N y x)) : Pf (n + 1) (fourT N y x) := ⟨_, _, _, _, rfl, h _ _, h _ _, h _ _, h _ _⟩
theorem Pf.mid {n : Nat} {T : Tree} (h : Pf (n + 2) T) : Pf (n + 1) (midT T) := Pf.four h.g
theorem live_pf (b l : Int) (g : Nat → Nat → Tree) (y x : Nat) : Pf 0 (liveT b l g y x) := by
  unfold liveT
  generalize bitB _ _ = q
  cases q
  · exact .inl rfl
  · exact .inr rfl
theorem Pf.res {b l : Int} : ∀ {n : Nat} {T : Tree} {j : Int}, Pf (n + 2) T → Pf (n + 1) (resT b l n T j)
  | 0, T, j, _ => ⟨_, _, _, _, rfl, live_pf .., live_pf .., live_pf .., live_pf ..⟩
  | n + 1, T, j, h => by
    rw [resT]
    refine Pf.four fun y x => Pf.res (Pf.four fun y x => ?_)
    split
    · exact Pf.res (Pf.four h.g)
    · exact Pf.mid (Pf.four h.g)
theorem treeOf_pf (P : Int → Int → Bool) : ∀ (n : Nat) (x y : Int), Pf n (treeOf P n x y)
  | 0, x, y => by
    simp only [treeOf]; split
    · exact .inr rfl
    · exact .inl rfl
  | n + 1, x, y => ⟨_, _, _, _, rfl, treeOf_pf P n _ _, treeOf_pf P n _ _, treeOf_pf P n _ _, treeOf_pf P n _ _⟩

def oneP (P : Int → Int → Bool) (x y : Int) : Int := if P x y then 1 else 0
def nearP (P : Int → Int → Bool) (x y : Int) : Int :=
  oneP P (x - 1) (y - 1) + oneP P x (y - 1) + oneP P (x + 1) (y - 1) + oneP P (x - 1) y + oneP P (x + 1) y + oneP P (x - 1) (y + 1) + oneP P x (y + 1) + oneP P (x + 1) (y + 1)
/-- A plain step. -/
def ev (b l : Int) (P : Int → Int → Bool) (x y : Int) : Bool := bitB (if P x y then l else b) (nearP P x y).toNat
def evN (b l : Int) : Nat → (Int → Int → Bool) → Int → Int → Bool
  | 0, P => P
  | n + 1, P => ev b l (evN b l n P)
theorem evN_add (b l : Int) (P : Int → Int → Bool) (m : Nat) : ∀ n, evN b l n (evN b l m P) = evN b l (m + n) P
  | 0 => rfl
  | n + 1 => by rw [evN, evN_add b l P m n]; rfl
theorem gT_of (P : Int → Int → Bool) (n : Nat) (x y : Int) {r c : Nat} (hr : r < 4) (hc : c < 4) : gT (treeOf P (n + 2) x y) r c = treeOf P n (x + c * 2 ^ n) (y + r * 2 ^ n) := by
  have e1 : r = 0 ∨ r = 1 ∨ r = 2 ∨ r = 3 := by omega
  have e2 : c = 0 ∨ c = 1 ∨ c = 2 ∨ c = 3 := by omega
  have h : (2 : Int) ^ (n + 1) = 2 ^ n * 2 := Int.pow_succ 2 n
  unfold gT
  simp only [treeOf]
  rw [h]
  rcases e1 with rfl | rfl | rfl | rfl <;> rcases e2 with rfl | rfl | rfl | rfl <;> simp [Tree.kid] <;> congr 1 <;> omega
theorem fourT_of {N : Nat → Nat → Tree} {P : Int → Int → Bool} {n : Nat} {x y : Int} {r c : Nat} (h : ∀ r' c', r' ≤ r + 1 → c' ≤ c + 1 → N r' c' = treeOf P n (x + c' * 2 ^ n) (y + r' * 2 ^ n)) :
    fourT N r c = treeOf P (n + 1) (x + c * 2 ^ n) (y + r * 2 ^ n) := by
  unfold fourT
  rw [h r c (by omega) (by omega), h r (c + 1) (by omega) (by omega), h (r + 1) c (by omega) (by omega), h (r + 1) (c + 1) (by omega) (by omega)]
  simp only [treeOf]
  have e : ∀ k : Nat, ((k + 1 : Nat) : Int) * 2 ^ n = k * 2 ^ n + 2 ^ n := fun k => by rw [Int.natCast_add, Int.add_mul]; simp
  rw [e, e, ← Int.add_assoc, ← Int.add_assoc]
theorem fourT_congr {N N' : Nat → Nat → Tree} {r c : Nat} (h : ∀ r' c', r' ≤ r + 1 → c' ≤ c + 1 → N r' c' = N' r' c') : fourT N r c = fourT N' r c := by
  unfold fourT
  rw [h r c (by omega) (by omega), h r (c + 1) (by omega) (by omega), h (r + 1) c (by omega) (by omega), h (r + 1) (c + 1) (by omega) (by omega)]
theorem small_of (b l : Int) (P : Int → Int → Bool) (x y : Int) : smallT b l (gT (treeOf P 2 x y)) = treeOf (ev b l P) 1 (x + 1) (y + 1) := by
  have one : ∀ r c : Nat, r < 4 → c < 4 → gT (treeOf P 2 x y) r c = treeOf P 0 (x + c) (y + r) := fun r c hr hc => by
    have := gT_of P 0 x y hr hc
    simpa using this
  have ho : ∀ (a d : Int), oneT (treeOf P 0 a d) = oneP P a d := fun a d => by
    by_cases h : P a d = true <;> simp [oneT, oneP, treeOf, h]
  have ha : ∀ (a d : Int), aliveB (treeOf P 0 a d) = P a d := fun a d => by
    by_cases h : P a d = true <;> simp [aliveB, treeOf, h]
  have key : ∀ r c : Nat, r < 2 → c < 2 → liveT b l (gT (treeOf P 2 x y)) r c = treeOf (ev b l P) 0 (x + 1 + c) (y + 1 + r) := fun r c hr hc => by
    unfold liveT nearT
    rw [one (r + 1) (c + 1) (by omega) (by omega), one r c (by omega) (by omega), one r (c + 1) (by omega) (by omega), one r (c + 2) (by omega) (by omega), one (r + 1) c (by omega) (by omega), one (r + 1) (c + 2) (by omega) (by omega),
      one (r + 2) c (by omega) (by omega), one (r + 2) (c + 1) (by omega) (by omega), one (r + 2) (c + 2) (by omega) (by omega)]
    simp only [ho, ha]
    rw [treeOf]
    unfold ev nearP
    have e1 : x + ((c + 1 : Nat) : Int) = x + 1 + c := by omega
    have e2 : y + ((r + 1 : Nat) : Int) = y + 1 + r := by omega
    have e3 : x + ((c + 2 : Nat) : Int) = x + 1 + c + 1 := by omega
    have e4 : y + ((r + 2 : Nat) : Int) = y + 1 + r + 1 := by omega
    have e5 : x + (c : Int) = x + 1 + c - 1 := by omega
    have e6 : y + (r : Int) = y + 1 + r - 1 := by omega
    rw [e1, e2, e3, e4, e5, e6]
  unfold smallT
  rw [key 0 0 (by decide) (by decide), key 0 1 (by decide) (by decide), key 1 0 (by decide) (by decide), key 1 1 (by decide) (by decide)]
  simp only [treeOf]
  simp
/-- What a square becomes is the square of what its cells become. -/
theorem resT_of (b l : Int) : ∀ (n : Nat) (P : Int → Int → Bool) (x y : Int) (j : Nat), j ≤ n → resT b l n (treeOf P (n + 2) x y) (j : Int) = treeOf (evN b l (2 ^ j) P) (n + 1) (x + 2 ^ n) (y + 2 ^ n)
  | 0, P, x, y, j, hj => by
    obtain rfl : j = 0 := by omega
    rw [resT, small_of]
    simp [evN]
  | n + 1, P, x, y, j, hj => by
    have h2 : (2 : Int) ^ (n + 1) = 2 ^ n + 2 ^ n := by rw [Int.pow_succ]; omega
    have hs : ∀ r c : Nat, r ≤ 2 → c ≤ 2 → fourT (gT (treeOf P (n + 3) x y)) r c = treeOf P (n + 2) (x + c * 2 ^ (n + 1)) (y + r * 2 ^ (n + 1)) := fun r c hr hc =>
      fourT_of fun r' c' hr' hc' => gT_of P (n + 1) x y (by omega) (by omega)
    have hm : ∀ (Q : Int → Int → Bool) (a d : Int), midT (treeOf Q (n + 2) a d) = treeOf Q (n + 1) (a + 2 ^ n) (d + 2 ^ n) := fun Q a d => by
      unfold midT
      have := fourT_of (N := gT (treeOf Q (n + 2) a d)) (P := Q) (n := n) (x := a) (y := d) (r := 1) (c := 1) fun r' c' hr' hc' => gT_of Q n a d (by omega) (by omega)
      simpa using this
    rw [resT]
    by_cases hf : j = n + 1
    · have hf' : ((j : Nat) : Int) = ((n + 1 : Nat) : Int) := by omega
      rw [if_pos hf']
      have hj1 : (j : Int) - 1 = ((j - 1 : Nat) : Int) := by omega
      rw [hj1]
      have hN : ∀ r c : Nat, r ≤ 2 → c ≤ 2 → (if (j : Int) = ((n + 1 : Nat) : Int) then resT b l n (fourT (gT (treeOf P (n + 3) x y)) r c) ((j - 1 : Nat) : Int) else midT (fourT (gT (treeOf P (n + 3) x y)) r c)) = treeOf (evN b l (2 ^ (j - 1)) P) (n + 1) (x + 2 ^ n + c * 2 ^ (n + 1)) (y + 2 ^ n + r * 2 ^ (n + 1)) := fun r c hr hc => by
        rw [if_pos hf', hs r c hr hc, resT_of b l n P _ _ (j - 1) (by omega)]
        congr 1 <;> omega
      have hq : ∀ r c : Nat, r ≤ 1 → c ≤ 1 → resT b l n (fourT (fun y_1 x_1 => if (j : Int) = ((n + 1 : Nat) : Int) then resT b l n (fourT (gT (treeOf P (n + 3) x y)) y_1 x_1) ((j - 1 : Nat) : Int) else midT (fourT (gT (treeOf P (n + 3) x y)) y_1 x_1)) r c) ((j - 1 : Nat) : Int) = treeOf (evN b l (2 ^ j) P) (n + 1) (x + 2 ^ (n + 1) + c * 2 ^ (n + 1)) (y + 2 ^ (n + 1) + r * 2 ^ (n + 1)) := fun r c hr hc => by
        rw [fourT_of (P := evN b l (2 ^ (j - 1)) P) (n := n + 1) (x := x + 2 ^ n) (y := y + 2 ^ n) fun r' c' hr' hc' => hN r' c' (by omega) (by omega)]
        rw [resT_of b l n _ _ _ (j - 1) (by omega), evN_add]
        have e : 2 ^ (j - 1) + 2 ^ (j - 1) = 2 ^ j := by
          obtain ⟨k, rfl⟩ : ∃ k, j = k + 1 := ⟨j - 1, by omega⟩
          rw [Nat.pow_succ]; simp; omega
        rw [e]
        congr 1 <;> omega
      have := fourT_of (P := evN b l (2 ^ j) P) (n := n + 1) (x := x + 2 ^ (n + 1)) (y := y + 2 ^ (n + 1)) (r := 0) (c := 0) fun r' c' hr' hc' => hq r' c' (by omega) (by omega)
      simpa using this
    · have hf' : ¬ ((j : Nat) : Int) = ((n + 1 : Nat) : Int) := by omega
      rw [if_neg hf']
      have hN : ∀ r c : Nat, r ≤ 2 → c ≤ 2 → (if (j : Int) = ((n + 1 : Nat) : Int) then resT b l n (fourT (gT (treeOf P (n + 3) x y)) r c) ((j : Int) - 1) else midT (fourT (gT (treeOf P (n + 3) x y)) r c)) = treeOf P (n + 1) (x + 2 ^ n + c * 2 ^ (n + 1)) (y + 2 ^ n + r * 2 ^ (n + 1)) := fun r c hr hc => by
        rw [if_neg hf', hs r c hr hc, hm]
        congr 1 <;> omega
      have hq : ∀ r c : Nat, r ≤ 1 → c ≤ 1 → resT b l n (fourT (fun y_1 x_1 => if (j : Int) = ((n + 1 : Nat) : Int) then resT b l n (fourT (gT (treeOf P (n + 3) x y)) y_1 x_1) ((j : Int) - 1) else midT (fourT (gT (treeOf P (n + 3) x y)) y_1 x_1)) r c) (j : Int) = treeOf (evN b l (2 ^ j) P) (n + 1) (x + 2 ^ (n + 1) + c * 2 ^ (n + 1)) (y + 2 ^ (n + 1) + r * 2 ^ (n + 1)) := fun r c hr hc => by
        rw [fourT_of (P := P) (n := n + 1) (x := x + 2 ^ n) (y := y + 2 ^ n) fun r' c' hr' hc' => hN r' c' (by omega) (by omega)]
        rw [resT_of b l n _ _ _ j (by omega)]
        congr 1 <;> omega
      have := fourT_of (P := evN b l (2 ^ j) P) (n := n + 1) (x := x + 2 ^ (n + 1)) (y := y + 2 ^ (n + 1)) (r := 0) (c := 0) fun r' c' hr' hc' => hq r' c' (by omega) (by omega)
      simpa using this
end Go.Proofs.Ytgdijlpkbbfedaa

namespace Go.Proofs.Ytgdijlpkbbfedaa
open Go.RowKit

theorem i64_and1 (x : Int) (h0 : 0 ≤ x) (h1 : x < 9223372036854775808) : bits .and .i64 x 1 = x % 2 :=
  bits_mask .i64 63 (by decide) (fun n a b => by rw [IntKind.wrap_i64]; omega) 1 (by decide) x h0 h1

/-- A rule that is one. -/
def goodR (b l : Int) : Prop := (0 ≤ b ∧ b < 512) ∧ (0 ≤ l ∧ l < 512) ∧ b % 2 = 0

set_option maxRecDepth 100000 in
theorem good_true (w : World) (b l : Int) (h : goodR b l) :
    Calls Try.prog 26 #[.agg #[.int .i64 b, .int .i64 l]] w fun e w' => e = .returned (.bool true) ∧ Below w.heap.size w w' := by
  obtain ⟨⟨h1, h2⟩, ⟨h3, h4⟩, h5⟩ := h
  have ha := i64_and1 b h1 (by omega)
  rw [h5] at ha
  clear h5
  go_enter Try.func26, Try.ntmps26
  go_wp2
  go_ret
  exact ⟨rfl, (Below.refl _ _).alloc (Nat.le_refl _) _⟩

set_option maxRecDepth 100000 in
theorem good_false (w : World) (b l : Int) (hb : -9223372036854775808 ≤ b ∧ b ≤ 9223372036854775807) (h : ¬ goodR b l) :
    Calls Try.prog 26 #[.agg #[.int .i64 b, .int .i64 l]] w fun e w' => e = .returned (.bool false) ∧ Below w.heap.size w w' := by
  obtain ⟨hb1, hb2⟩ := hb
  unfold goodR at h
  by_cases h1 : 0 ≤ b
  · by_cases h2 : b < 512
    · by_cases h3 : 0 ≤ l
      · by_cases h4 : l < 512
        · have h5 : b % 2 = 1 := by
            rcases Int.emod_two_eq b with e | e
            · exact absurd ⟨⟨h1, h2⟩, ⟨h3, h4⟩, e⟩ h
            · exact e
          have ha := i64_and1 b h1 (by omega)
          rw [h5] at ha
          clear h5 h
          go_enter Try.func26, Try.ntmps26
          go_wp2
          go_ret
          exact ⟨rfl, (Below.refl _ _).alloc (Nat.le_refl _) _⟩
        · clear h
          go_enter Try.func26, Try.ntmps26
          go_wp2
          go_ret
          exact ⟨rfl, (Below.refl _ _).alloc (Nat.le_refl _) _⟩
      · clear h
        go_enter Try.func26, Try.ntmps26
        go_wp2
        go_ret
        exact ⟨rfl, (Below.refl _ _).alloc (Nat.le_refl _) _⟩
    · clear h
      go_enter Try.func26, Try.ntmps26
      go_wp2
      go_ret
      exact ⟨rfl, (Below.refl _ _).alloc (Nat.le_refl _) _⟩
  · clear h
    go_enter Try.func26, Try.ntmps26
    go_wp2
    go_ret
    exact ⟨rfl, (Below.refl _ _).alloc (Nat.le_refl _) _⟩

theorem bit_ret (b : Int) (n : Nat) (h0 : 0 ≤ b) (h1 : b < 512) : (bits .and .i64 (b / 2 ^ n) 1 == 1) = (b / 2 ^ n % 2 == 1) := by
  have e1 : 0 ≤ b / 2 ^ n := Int.ediv_nonneg h0 (by exact_mod_cast Nat.zero_le _)
  have e2 : b / 2 ^ n ≤ b := Int.ediv_le_self _ h0
  rw [i64_and1 _ e1 (by omega)]

end Go.Proofs.Ytgdijlpkbbfedaa

namespace Go.Proofs.Ytgdijlpkbbfedaa
open Go.RowKit

theorem i64_andNot1_fin : ∀ x : Fin 512, bits .andNot .i64 ((x : Nat) : Int) 1 = (((x : Nat) - (x : Nat) % 2 : Nat) : Int) := by decide +kernel
theorem i64_andNot1 (x : Int) (h0 : 0 ≤ x) (h1 : x < 512) : bits .andNot .i64 x 1 = x - x % 2 := by
  obtain ⟨n, rfl⟩ := Int.eq_ofNat_of_zero_le h0
  have h := i64_andNot1_fin ⟨n, by omega⟩
  simp only at h
  rw [h]; omega

/-- The rule that 'right' makes. -/
def rightB (b : Int) : Int := b % 512 - b % 2
def rightL (l : Int) : Int := l % 512
theorem right_good (b l : Int) : goodR (rightB b) (rightL l) := by unfold goodR rightB rightL; omega

set_option maxRecDepth 100000 in
set_option maxHeartbeats 1600000 in
theorem right_any (w : World) (b l : Int) (hb : -9223372036854775808 ≤ b ∧ b ≤ 9223372036854775807) (hl : -9223372036854775808 ≤ l ∧ l ≤ 9223372036854775807) :
    Calls Try.prog 8 #[.agg #[.int .i64 b, .int .i64 l]] w fun e w' => e = .returned (.agg #[.int .i64 (rightB b), .int .i64 (rightL l)]) ∧ Below w.heap.size w w' := by
  have HB := Lib.hid hb
  have HL := Lib.hid hl
  have h1 := Int.emod_nonneg b (show (512 : Int) ≠ 0 by omega)
  have h2 := Int.emod_lt_of_pos b (show (0 : Int) < 512 by omega)
  have ha := i64_andNot1 (b % 512) h1 h2
  have HC1 : Hid (∀ x, (-9223372036854775808 ≤ x ∧ x ≤ 9223372036854775807) → ∀ w : World, Calls Try.prog 10 #[.int .i64 x, .int .i64 512] w fun e w' => e = .returned (.int .i64 (x % 512)) ∧ w = w') := fun x hx w => spot_any x 512 (by omega) (by omega) hx.1 hx.2 w
  clear hb hl
  go_enter Try.func8, Try.ntmps8
  go_wp2_with fail
  go_region_held3 (fun w' => w'.cell? ⟨w.heap.size, 0, none⟩ = some (.int .i64 b) ∧ w'.cell? ⟨w.heap.size, 1, none⟩ = some (.int .i64 l)) (go_keep)
    ((go_at_call 10; refine (HC1.out _ (by first | exact HB.out | exact HL.out) _).mono ?_; rintro e w' ⟨rfl, rfl⟩))
  all_goals (go_wp2_with fail)
  refine bodyPost_ret (v := .agg #[.int .i64 (b % 512 - b % 2), .int .i64 (l % 512)]) (by simp [results, Try.results8, go_sem]) rfl ?_
  exact ⟨rfl, (((Below.refl _ _).alloc (Nat.le_refl _) _).alloc (by simp) _).drew⟩
end Go.Proofs.Ytgdijlpkbbfedaa

namespace Go.Proofs.Ytgdijlpkbbfedaa
open Go.RowKit

set_option maxRecDepth 100000 in
theorem lives_any (w : World) (b l : Int) (hb : 0 ≤ b ∧ b < 512) (hl : 0 ≤ l ∧ l < 512) (alive : Bool) (n : Nat) (hn : n ≤ 8) :
    Calls Try.prog 77 #[.agg #[.int .i64 b, .int .i64 l], .bool alive, .int .i64 n] w fun e w' => e = .returned (.bool (bitB (if alive then l else b) n)) ∧ Below w.heap.size w w' := by
  obtain ⟨b1, b2⟩ := hb
  obtain ⟨l1, l2⟩ := hl
  have hn' : (n : Int) ≤ 8 := by omega
  clear hn
  cases alive
  · go_enter Try.func77, Try.ntmps77
    go_wp2
    go_ret
    exact ⟨congrArg (fun x => Ending.returned (.bool x)) (bit_ret b n b1 b2), (Below.refl _ _).alloc (Nat.le_refl _) _⟩
  · go_enter Try.func77, Try.ntmps77
    go_wp2
    go_ret
    exact ⟨congrArg (fun x => Ending.returned (.bool x)) (bit_ret l n l1 l2), (Below.refl _ _).alloc (Nat.le_refl _) _⟩
end Go.Proofs.Ytgdijlpkbbfedaa

namespace Go.Proofs.Ytgdijlpkbbfedaa
open Go.RowKit

/-- Things were made for a tenant, of those that C asks for. -/
structure Grew (t : Nat) (C : List Thing → Prop) (S : ArS) (A : Nat → Abs) (bad : Int) (S' : ArS) (A' : Nat → Abs) (bad' : Int) : Prop where
  st : St t S A S' A'
  ok : bad' = 0 → bad = 0
  code : bad' = bad ∨ bad = 0 ∧ (bad' = 9 ∨ bad' = 5)
  enough : ∀ V, Within S V → C V → (V.length : Int) < S.room → (V.length : Int) < S.quota t → bad' = bad ∧ Within S' V ∧ Stays (fun _ => True) S S'
  least : ∀ V : List Thing, (∀ x ∈ (A t).have_, x ∈ V) → C V → ∀ x ∈ (A' t).have_, x ∈ V
  quit : bad = 0 → bad' = 9 → ∀ V : List Thing, (∀ x ∈ (A t).have_, x ∈ V) → C V → S.quota t < (V.length : Int)
  le : S.count t ≤ S.quota t → S'.count t ≤ S'.quota t
  roomy : Roomy S A t → bad' = bad ∨ bad' = 9
section
variable {S S' S1 S2 : ArS} {A A' A1 A2 : Nat → Abs} {t : Nat} {C C' : List Thing → Prop} {L : List Thing} {bad bad' bad1 bad2 : Int}
theorem Grew.refl (h : Rel S A) (t : Nat) (C : List Thing → Prop) (bad : Int) : Grew t C S A bad S A bad :=
  ⟨St.refl h t, id, .inl rfl, fun _ hV _ _ _ => ⟨rfl, hV, Stays.refl _ S⟩, fun _ h1 _ => h1, fun e e' => absurd (e.symm.trans e') (by decide), id, fun _ => .inl rfl⟩
theorem Grew.trans (h : Grew t C S A bad S1 A1 bad1) (k : Grew t C S1 A1 bad1 S2 A2 bad2) : Grew t C S A bad S2 A2 bad2 := by
  refine ⟨h.st.trans k.st, fun e => h.ok (k.ok e), ?_, fun V hV hC hr hq => ?_, fun V h1 h2 => k.least V (h.least V h1 h2) h2, fun e e' V h1 h2 => ?_, fun e => k.le (h.le e), fun hr => ?_⟩
  · rcases k.code with e | ⟨e, e'⟩
    · rw [e]; exact h.code
    · exact .inr ⟨h.ok e, e'⟩
  · obtain ⟨a1, a2, a3⟩ := h.enough V hV hC hr hq
    obtain ⟨b1, b2, b3⟩ := k.enough V a2 hC (by rw [h.st.room]; exact hr) (by rw [h.st.quota]; exact hq)
    exact ⟨b1.trans a1, b2, a3.trans b3⟩
  · by_cases e1 : bad1 = 0
    · have := k.quit e1 e' V (h.least V h1 h2) h2
      rw [h.st.quota] at this; exact this
    · rcases k.code with c | ⟨c, _⟩
      · exact h.quit e (c.symm.trans e') V h1 h2
      · exact absurd c e1
  · rcases k.roomy (h.st.roomy hr) with c | c
    · rw [c]; exact h.roomy hr
    · exact .inr c
theorem Grew.mono (h : Grew t C S A bad S' A' bad') (hC : ∀ V, C' V → C V) : Grew t C' S A bad S' A' bad' :=
  ⟨h.st, h.ok, h.code, fun V hV hc => h.enough V hV (hC V hc), fun V h1 h2 => h.least V h1 (hC V h2), fun e e' V h1 h2 => h.quit e e' V h1 (hC V h2), h.le, h.roomy⟩
theorem Made.grew (h : Made t L S A bad S' A' bad') : Grew t (fun V => ∀ x ∈ L, x ∈ V) S A bad S' A' bad' :=
  ⟨h.st, fun e => (h.ok e).1, h.code, h.enough, h.least, h.quit, h.le, h.roomy⟩
theorem Grew.none (h : Rel S A) (t : Nat) (C : List Thing → Prop) (bad : Int) : Grew t C S A bad S A bad := Grew.refl h t C bad
end

def lpC (p t : Nat) (b l bad : Int) : Array Value := #[.pointer (some ⟨p, 0, none⟩), .int .i64 t, .int .i64 b, .int .i64 l, .int .i64 bad]
theorem lpC_set (p t : Nat) (b l bad x : Int) : (lpC p t b l bad).setIfInBounds 4 (.int .i64 x) = lpC p t b l x := by
  unfold lpC; simp
/-- A leaper at work for a tenant, by a rule. -/
structure Lp (w : World) (hb p : Nat) (R : ArR) (S : ArS) (A : Nat → Abs) (t : Nat) (b l bad : Int) : Prop where
  arm : ArM w p R S
  blk : Blk w hb 94 (lpC p t b l bad)
  ne : ¬ Own p R hb
  rel : Rel S A
  add : ∀ u, u < 64 → ((S.added u).length : Int) ≤ S.count u
  ht : t < 64
section
variable {p hb t : Nat} {R R1 R' : ArR} {w w1 w' : World} {S S' : ArS} {A A' : Nat → Abs} {b l bad bad' : Int}
theorem Lp.inv (h : Lp w hb p R S A t b l bad) : Inv S := h.rel.inv
theorem Lp.few (h : Lp w hb p R S A t b l bad) : (S.added t).length ≤ 1000000 := by
  have := h.add t h.ht
  have := h.rel.inv.cnt_le h.ht
  omega
theorem Lp.keep {T : Nat → Prop} (h : Lp w hb p R S A t b l bad) (hm : Mod T w w') (h1 : ∀ b, Own p R b → ¬ T b) (h2 : ¬ T hb) : Lp w' hb p R S A t b l bad :=
  ⟨h.arm.keep hm h1, h.blk.mod hm h2, h.ne, h.rel, h.add, h.ht⟩
theorem Lp.below (h : Lp w hb p R S A t b l bad) (hb' : Below w.heap.size w w') : Lp w' hb p R S A t b l bad :=
  ⟨h.arm.below hb', h.blk.mod (Mod.of_below_all hb') (fun h => h), h.ne, h.rel, h.add, h.ht⟩
theorem Lp.drew (h : Lp w hb p R S A t b l bad) : Lp w.drew hb p R S A t b l bad := ⟨h.arm.drew, h.blk, h.ne, h.rel, h.add, h.ht⟩
theorem Lp.drewN (h : Lp w hb p R S A t b l bad) (n : Nat) : Lp (w.drewN n) hb p R S A t b l bad := ⟨h.arm.drewN n, h.blk, h.ne, h.rel, h.add, h.ht⟩
theorem Lp.alloc (h : Lp w hb p R S A t b l bad) (o : Obj) : Lp (w.alloc o) hb p R S A t b l bad := h.below ((Below.refl _ _).alloc (Nat.le_refl _) _)
theorem Lp.c0 (h : Lp w hb p R S A t b l bad) : w.cell? ⟨hb, 0, none⟩ = some (.pointer (some ⟨p, 0, none⟩)) := h.blk.cellS rfl
theorem Lp.c1 (h : Lp w hb p R S A t b l bad) : w.cell? ⟨hb, 1, none⟩ = some (.int .i64 t) := h.blk.cellS rfl
theorem Lp.c2 (h : Lp w hb p R S A t b l bad) : w.cell? ⟨hb, 2, none⟩ = some (.int .i64 b) := h.blk.cellS rfl
theorem Lp.c3 (h : Lp w hb p R S A t b l bad) : w.cell? ⟨hb, 3, none⟩ = some (.int .i64 l) := h.blk.cellS rfl
theorem Lp.c4 (h : Lp w hb p R S A t b l bad) : w.cell? ⟨hb, 4, none⟩ = some (.int .i64 bad) := h.blk.cellS rfl
theorem Lp.f (h : Lp w hb p R S A t b l bad) (j : Nat) : w.frozen? ⟨hb, j, none⟩ = false := h.blk.frozen j
/-- Behind the arena's work. -/
theorem Lp.arena (h : Lp w hb p R S A t b l bad) (ha : ArM w1 p R1 S') (hs : Step p R R1 w w1) (hst : St t S A S' A') : Lp w1 hb p R1 S' A' t b l bad :=
  ⟨ha, h.blk.mod hs.mod h.ne, (hs.toH (fun _ => False)).not h.blk.lt h.ne, hst.rel, hst.add h.add, h.ht⟩
theorem Lp.set (h : Lp w hb p R S A t b l bad) (x : Int) : Lp (w.setCell ⟨hb, 4, none⟩ (.int .i64 x)) hb p R S A t b l x := by
  refine ⟨h.arm.far (q := ⟨hb, 4, none⟩) h.ne _, ?_, h.ne, h.rel, h.add, h.ht⟩
  rw [← lpC_set p t b l bad x]
  exact h.blk.set 4 _
theorem StepH.keepX {X : Nat → Prop} (h : StepH X p R R' w w') {b : Nat} {ty : TypeId} {cs : Array Value} (hb : Blk w b ty cs) (ho : ¬ Own p R b) (hx : ¬ X b) : Blk w' b ty cs :=
  hb.mod h.mod fun q => q.elim ho hx
theorem Step.hX (h : Step p R R' w w') {X : Nat → Prop} : StepH X p R R' w w' := h.toH X
end
set_option maxRecDepth 100000 in
theorem lfail_any (w : World) (hb p : Nat) (R : ArR) (S : ArS) (A : Nat → Abs) (t : Nat) (b l bad x : Int) (h : Lp w hb p R S A t b l bad) :
    Calls Try.prog 61 #[.pointer (some ⟨hb, 0, none⟩), .int .i64 x] w fun e w' => e = .returned (.tuple #[]) ∧ Lp w' hb p R S A t b l (if bad = 0 then x else bad) ∧ StepH (fun b => b = hb) p R R w w' ∧ w'.heap.size = w.heap.size := by
  have H := Lib.hid h
  have c4 := h.c4
  have f4 := h.f 4
  clear h
  by_cases hb0 : bad = 0
  · subst hb0
    go_enter Try.func61, Try.ntmps61
    go_wp2_with fail
    go_returns
    exact ⟨rfl, H.out.set x, (StepH.refl (fun b => b = hb) p R w).set (q := ⟨hb, 4, none⟩) (fun _ => rfl) _, by simp [World.setCell]⟩
  · have hb1 : (bad == 0) = false := beq_eq_false_iff_ne.2 hb0
    have HB0 := Lib.hid hb0
    clear hb0
    go_enter Try.func61, Try.ntmps61
    go_wp2_with fail
    go_returns
    exact ⟨rfl, H.out, StepH.refl _ p R w, rfl⟩
/-- What a leaper's function that makes squares gives. -/
def LpPost (w : World) (hb p : Nat) (R : ArR) (S : ArS) (A : Nat → Abs) (t : Nat) (b l bad : Int) (T : Tree) (C : List Thing → Prop) (e : Ending) (w' : World) : Prop :=
  ∃ (r : Int) (S' : ArS) (A' : Nat → Abs) (R' : ArR) (bad' : Int), e = .returned (.int .i64 r) ∧ Grew t C S A bad S' A' bad' ∧ (bad' = 0 → Has S' A' t r T) ∧ Lp w' hb p R' S' A' t b l bad' ∧ StepH (fun b => b = hb) p R R' w w'
set_option maxRecDepth 100000 in
set_option maxHeartbeats 3200000 in
theorem ljoin_any (w : World) (hb p : Nat) (R : ArR) (S : ArS) (A : Nat → Abs) (t : Nat) (b l bad : Int) (h : Lp w hb p R S A t b l bad)
    (q0 q1 q2 q3 : Int) (a0 a1 a2 a3 : Tree) (n : Int) (hq : bad = 0 → Has S A t q0 a0 ∧ Has S A t q1 a1 ∧ Has S A t q2 a2 ∧ Has S A t q3 a3) (hl : a0.lvl = n ∧ a1.lvl = n ∧ a2.lvl = n ∧ a3.lvl = n) (hn : n < 44) :
    Calls Try.prog 78 #[.pointer (some ⟨hb, 0, none⟩), .int .i64 q0, .int .i64 q1, .int .i64 q2, .int .i64 q3] w (LpPost w hb p R S A t b l bad (.node a0 a1 a2 a3) (fun V => Thing.sq a0 a1 a2 a3 ∈ V)) := by
  have H := Lib.hid h
  have HQ := Lib.hid hq
  have HL := Lib.hid hl
  have c4 := h.c4
  clear h hq hl
  by_cases hb0 : bad = 0
  · subst hb0
    have HQ0 := Lib.hid (HQ.out rfl)
    clear HQ
    have c0 := H.out.c0
    have c1 := H.out.c1
    have HJ := Lib.hid (fun w2 (h2 : Lp w2 hb p R S A t b l 0) => join_any w2 p R S h2.arm h2.inv h2.rel.live t h2.ht h2.few q0 q1 q2 q3)
    go_enter Try.func78, Try.ntmps78
    go_wp2_with fail
    have HLT := Lib.hid H.out.blk.lt
    go_region_held3 (fun w' => w'.cell? ⟨hb, 0, none⟩ = some (.pointer (some ⟨p, 0, none⟩)) ∧ w'.cell? ⟨hb, 1, none⟩ = some (.int .i64 t))
      (first | (with_reducible exact ⟨c0, c1⟩) | (with_reducible exact ⟨e0, e1⟩) | go_keep)
      ((go_at_call 20; refine (HJ.out _ (by exact H.out.drew)).mono ?_; rintro e w3 ⟨r, x, S', R', rfl, hj, hA3, hs3⟩; have e0 := (hs3.mod.cell (a := ⟨hb, 0, none⟩) HLT.out H.out.ne).trans c0; have e1 := (hs3.mod.cell (a := ⟨hb, 1, none⟩) HLT.out H.out.ne).trans c1))
    obtain ⟨A', hm, hd⟩ := H.out.rel.joinG (n := n) H.out.ht HQ0.out.1.1 HQ0.out.2.1.1 HQ0.out.2.2.1.1 HQ0.out.2.2.2.1 HQ0.out.1.2 HQ0.out.2.1.2 HQ0.out.2.2.1.2 HQ0.out.2.2.2.2 HL.out.1 HL.out.2.1 HL.out.2.2.1 HL.out.2.2.2 hn hj
    have HM : Hid (Grew t (fun V => Thing.sq a0 a1 a2 a3 ∈ V) S A 0 S' A' x) := (hm.shrink (L' := [Thing.sq a0 a1 a2 a3]) H.out.rel H.out.ht (fun y hy => by rw [List.mem_singleton.1 hy]; exact mem_nodes.2 (.inl rfl)) (fun y hy => by
      rcases mem_nodes.1 hy with k | k | k | k | k
      · exact .inl (List.mem_singleton.2 k)
      · exact .inr (H.out.rel.nodes_has H.out.ht HQ0.out.1.2 y k)
      · exact .inr (H.out.rel.nodes_has H.out.ht HQ0.out.2.1.2 y k)
      · exact .inr (H.out.rel.nodes_has H.out.ht HQ0.out.2.2.1.2 y k)
      · exact .inr (H.out.rel.nodes_has H.out.ht HQ0.out.2.2.2.2 y k))).grew.mono fun V hV y hy => by rw [List.mem_singleton.1 hy]; exact hV
    have HD : Hid (x = 0 → Has S' A' t r (.node a0 a1 a2 a3)) := fun e => ⟨hd e, has_nodes fun y hy => ((hm.ok e).2.1 y).2 (.inr hy)⟩
    have HP3 : Hid (Lp w3 hb p R' S' A' t b l 0) := H.out.drew.arena hA3 hs3 hm.st
    have HS3 : Hid (StepH (fun b => b = hb) p R R' w w3) := ((StepH.refl (fun b => b = hb) p R w).drew).trans (hs3.toH _)
    clear hm hd hj hA3 hs3 e0 e1 c0 c1 c4
    go_wp2_with fail
    (with_reducible refine (lfail_any _ hb p R' S' A' t b l 0 x HP3.out).mono ?_)
    rintro e w4 ⟨rfl, hp4, hs4, _⟩
    rw [if_pos rfl] at hp4
    have HP4 := Lib.hid hp4
    have HS4 := Lib.hid (HS3.out.trans hs4)
    clear hp4 hs4
    go_wp2_with fail
    go_returns
    exact ⟨r, S', A', R', x, rfl, HM.out, HD.out, HP4.out, HS4.out⟩
  · have hb1 : (bad == 0) = false := beq_eq_false_iff_ne.2 hb0
    have HB0 := Lib.hid hb0
    clear hb0
    go_enter Try.func78, Try.ntmps78
    go_wp2_with fail
    go_returns
    exact ⟨0, S, A, R, bad, rfl, Grew.none H.out.rel t _ _, fun e => absurd e HB0.out, H.out, StepH.refl _ p R w⟩
end Go.Proofs.Ytgdijlpkbbfedaa

namespace Go.Proofs.Ytgdijlpkbbfedaa
open Go.RowKit

/-- A block of the function's own, beside a leaper. -/
structure Lc (w : World) (p : Nat) (R : ArR) (hb z : Nat) (ty : TypeId) (cs : Array Value) : Prop where
  blk : Blk w z ty cs
  no : ¬ Own p R z
  ne : z ≠ hb
section
variable {p hb t z : Nat} {R R1 R' : ArR} {w w0 w1 w' : World} {S S' : ArS} {A A' : Nat → Abs} {b l bad bad' : Int} {ty : TypeId} {cs : Array Value}
theorem Lc.new (h : Lp w hb p R S A t b l bad) (ty : TypeId) (cs : Array Value) : Lc (w.alloc (.cells cs ty)) p R hb w.heap.size ty cs :=
  ⟨Blk.new _ _ _, fun ho => Nat.lt_irrefl _ (h.arm.own_lt ho), by have := h.blk.lt; omega⟩
theorem Lc.step (h : Lc w p R hb z ty cs) (hs : StepH (fun b => b = hb) p R R' w w') : Lc w' p R' hb z ty cs :=
  ⟨hs.keepX h.blk h.no h.ne, hs.not h.blk.lt h.no, h.ne⟩
theorem Lc.below (h : Lc w p R hb z ty cs) (hb' : Below w.heap.size w w') : Lc w' p R hb z ty cs := ⟨h.blk.mod (Mod.of_below_all hb') id, h.no, h.ne⟩
theorem Lc.alloc (h : Lc w p R hb z ty cs) (o : Obj) : Lc (w.alloc o) p R hb z ty cs := ⟨h.blk.alloc o, h.no, h.ne⟩
theorem Lc.drew (h : Lc w p R hb z ty cs) : Lc w.drew p R hb z ty cs := ⟨h.blk, h.no, h.ne⟩
theorem Lc.drewN (h : Lc w p R hb z ty cs) (n : Nat) : Lc (w.drewN n) p R hb z ty cs := ⟨h.blk, h.no, h.ne⟩
theorem Lc.set (h : Lc w p R hb z ty cs) (i : Nat) (v : Value) : Lc (w.setCell ⟨z, i, none⟩ v) p R hb z ty (cs.setIfInBounds i v) := ⟨h.blk.set i v, h.no, h.ne⟩
theorem Lc.far (h : Lc w p R hb z ty cs) {y : Nat} (hy : z ≠ y) (i : Nat) (v : Value) : Lc (w.setCell ⟨y, i, none⟩ v) p R hb z ty cs := ⟨h.blk.far (p := ⟨y, i, none⟩) hy v, h.no, h.ne⟩
theorem Lp.lset (h : Lp w hb p R S A t b l bad) (hz : Lc w p R hb z ty cs) (i : Nat) (v : Value) : Lp (w.setCell ⟨z, i, none⟩ v) hb p R S A t b l bad :=
  h.keep (T := fun b => b = z) ((Mod.refl (fun b => b = z) w).set (p := ⟨z, i, none⟩) (fun _ => rfl) v) (fun _ hb e => hz.no (e ▸ hb)) (fun e => hz.ne e.symm)
theorem Lc.cell (h : Lc w p R hb z ty cs) {i : Nat} {v : Value} (hi : cs[i]? = some v) : w.cell? ⟨z, i, none⟩ = some v := h.blk.cellS hi
theorem Lc.frozen (h : Lc w p R hb z ty cs) (i : Nat) : w.frozen? ⟨z, i, none⟩ = false := h.blk.frozen i

/-- From w on, the arena, the leaper and what is new may have changed. -/
abbrev StepN (hb p : Nat) (R R' : ArR) (w w' : World) : Prop := StepH (fun b => b = hb ∨ w.heap.size ≤ b) p R R' w w'
theorem StepN.step (h : StepN hb p R R1 w w1) (k : StepH (fun b => b = hb) p R1 R' w1 w') : StepN hb p R R' w w' := h.trans (k.wide fun _ _ e => .inl e)
theorem StepN.lset (h : StepN hb p R R1 w w1) (hz : w.heap.size ≤ z) (i : Nat) (v : Value) : StepN hb p R R1 w (w1.setCell ⟨z, i, none⟩ v) := StepH.set h (q := ⟨z, i, none⟩) (fun _ => .inr hz) v
theorem StepN.fin (h : StepN hb p R R1 w w1) : StepH (fun b => b = hb) p R R1 w w1 := h.wide fun b hb e => by
  rcases e with e | e
  · exact e
  · omega
theorem StepN.refl (hb p : Nat) (R : ArR) (w : World) : StepN hb p R R w w := StepH.refl _ p R w
theorem StepN.below (h : StepN hb p R R1 w w1) (hb' : Below w1.heap.size w1 w') : StepN hb p R R1 w w' := h.trans (StepH.of_below hb')
theorem StepN.alloc (h : StepN hb p R R1 w w1) (o : Obj) : StepN hb p R R1 w (w1.alloc o) := StepH.alloc h o
theorem StepN.drew (h : StepN hb p R R1 w w1) : StepN hb p R R1 w w1.drew := StepH.drew h
end
theorem fn4 (a b c d : Int) : ∃ r : Nat → Int, r 0 = a ∧ r 1 = b ∧ r 2 = c ∧ r 3 = d := ⟨fun k => if k = 0 then a else if k = 1 then b else if k = 2 then c else d, rfl, rfl, rfl, rfl⟩
def z4 : Array Value := #[.int .i64 0, .int .i64 0, .int .i64 0, .int .i64 0]
def v4 (k0 k1 k2 k3 : Int) : Array Value := #[.int .i64 k0, .int .i64 k1, .int .i64 k2, .int .i64 k3]
/-- A row of four numbers is copied out of a call. -/
structure MidQ (w : World) (hb p : Nat) (R : ArR) (S : ArS) (A : Nat → Abs) (t : Nat) (b l bad : Int) (k0 k1 k2 k3 : Int) (w5 : World) (qb : Nat) : Prop where
  lp : Lp w5 hb p R S A t b l bad
  q : Lc w5 p R hb qb 50 #[.int .i64 k0, .int .i64 k1, .int .i64 k2, .int .i64 k3]
  r : Lc w5 p R hb w.heap.size 50 #[.int .i64 0, .int .i64 0, .int .i64 0, .int .i64 0]
  ne : qb ≠ w.heap.size
  lo : w.heap.size ≤ qb
  st : StepN hb p R R w w5
section
variable {w w2 w3 : World} {hb p : Nat} {R : ArR} {S : ArS} {A : Nat → Abs} {t : Nat} {b l bad : Int} {k0 k1 k2 k3 : Int}
theorem midq_a (H2 : Lp w2 hb p R S A t b l bad) (hs : StepN hb p R R w w2) (hr : Lc w2 p R hb w.heap.size 50 #[.int .i64 0, .int .i64 0, .int .i64 0, .int .i64 0]) (hb3 : Below w2.drew.heap.size w2.drew w3) :
    MidQ w hb p R S A t b l bad k0 k1 k2 k3 (w3.alloc (.cells #[.int .i64 k0, .int .i64 k1, .int .i64 k2, .int .i64 k3] 50)) w3.heap.size := by
  have h1 := hr.blk.lt
  have h2 : w2.heap.size ≤ w3.heap.size := hb3.size
  exact ⟨(H2.drew.below hb3).alloc _, Lc.new (H2.drew.below hb3) _ _, (hr.drew.below hb3).alloc _, by omega, by omega, (hs.drew.below hb3).alloc _⟩
theorem midq_b (H2 : Lp w2 hb p R S A t b l bad) (hs : StepN hb p R R w w2) (hr : Lc w2 p R hb w.heap.size 50 #[.int .i64 0, .int .i64 0, .int .i64 0, .int .i64 0])
    (hb3 : Below (w2.alloc (.cells #[.int .i64 0, .int .i64 0, .int .i64 0, .int .i64 0] 50)).drew.heap.size (w2.alloc (.cells #[.int .i64 0, .int .i64 0, .int .i64 0, .int .i64 0] 50)).drew w3) :
    MidQ w hb p R S A t b l bad k0 k1 k2 k3 ((((w3.setCell ⟨w2.heap.size, 0, none⟩ (.int .i64 k0)).setCell ⟨w2.heap.size, 1, none⟩ (.int .i64 k1)).setCell ⟨w2.heap.size, 2, none⟩ (.int .i64 k2)).setCell ⟨w2.heap.size, 3, none⟩ (.int .i64 k3)) w2.heap.size := by
  have h1 := hr.blk.lt
  have hq := (Lc.new H2 50 #[.int .i64 0, .int .i64 0, .int .i64 0, .int .i64 0]).drew.below hb3
  have hl := (H2.alloc (.cells #[.int .i64 0, .int .i64 0, .int .i64 0, .int .i64 0] 50)).drew.below hb3
  have hn : w.heap.size ≠ w2.heap.size := by omega
  have hlo : w.heap.size ≤ w2.heap.size := by omega
  have q1 := hq.set 0 (.int .i64 k0)
  have q2 := q1.set 1 (.int .i64 k1)
  have q3 := q2.set 2 (.int .i64 k2)
  exact ⟨(((hl.lset hq 0 _).lset q1 1 _).lset q2 2 _).lset q3 3 _, q3.set 3 (.int .i64 k3), (((((hr.alloc _).drew.below hb3).far hn 0 _).far hn 1 _).far hn 2 _).far hn 3 _, by omega, hlo,
    (((((hs.alloc _).drew.below hb3).lset hlo 0 _).lset hlo 1 _).lset hlo 2 _).lset hlo 3 _⟩
theorem MidQ.step {w5 w6 : World} {qb : Nat} (h : MidQ w hb p R S A t b l bad k0 k1 k2 k3 w5 qb) (hp : Lp w6 hb p R S A t b l bad) (hs : StepH (fun b => b = hb) p R R w5 w6) : MidQ w hb p R S A t b l bad k0 k1 k2 k3 w6 qb :=
  ⟨hp, h.q.step hs, h.r.step hs, h.ne, h.lo, h.st.step hs⟩
theorem MidQ.fin {w5 : World} {qb : Nat} (h : MidQ w hb p R S A t b l bad k0 k1 k2 k3 w5 qb) (u0 u1 u2 u3 : Value) :
    Lc ((((w5.setCell ⟨w.heap.size, 0, none⟩ u0).setCell ⟨w.heap.size, 1, none⟩ u1).setCell ⟨w.heap.size, 2, none⟩ u2).setCell ⟨w.heap.size, 3, none⟩ u3) p R hb w.heap.size 50 #[u0, u1, u2, u3] ∧ Lp ((((w5.setCell ⟨w.heap.size, 0, none⟩ u0).setCell ⟨w.heap.size, 1, none⟩ u1).setCell ⟨w.heap.size, 2, none⟩ u2).setCell ⟨w.heap.size, 3, none⟩ u3) hb p R S A t b l bad ∧ StepN hb p R R w ((((w5.setCell ⟨w.heap.size, 0, none⟩ u0).setCell ⟨w.heap.size, 1, none⟩ u1).setCell ⟨w.heap.size, 2, none⟩ u2).setCell ⟨w.heap.size, 3, none⟩ u3) := by
  have q1 := h.r.set 0 u0
  have q2 := q1.set 1 u1
  have q3 := q2.set 2 u2
  have hlo := Nat.le_refl w.heap.size
  exact ⟨q3.set 3 u3, (((h.lp.lset h.r 0 _).lset q1 1 _).lset q2 2 _).lset q3 3 _, (((h.st.lset hlo 0 _).lset hlo 1 _).lset hlo 2 _).lset hlo 3 _⟩
end
/-- What kids of a leaper gives. -/
def LKidsPost (w : World) (hb p : Nat) (R : ArR) (S : ArS) (A : Nat → Abs) (t : Nat) (b l bad : Int) (T : Tree) (e : Ending) (w' : World) : Prop :=
  ∃ k0 k1 k2 k3 : Int, e = .returned (.agg #[.int .i64 k0, .int .i64 k1, .int .i64 k2, .int .i64 k3]) ∧ (bad = 0 → Has S A t k0 (T.kid 0) ∧ Has S A t k1 (T.kid 1) ∧ Has S A t k2 (T.kid 2) ∧ Has S A t k3 (T.kid 3)) ∧ (bad ≠ 0 → k0 = 0 ∧ k1 = 0 ∧ k2 = 0 ∧ k3 = 0) ∧ Lp w' hb p R S A t b l bad ∧ StepH (fun b => b = hb) p R R w w'
set_option maxRecDepth 100000 in
set_option maxHeartbeats 3200000 in
theorem lkids_any (w : World) (hb p : Nat) (R : ArR) (S : ArS) (A : Nat → Abs) (t : Nat) (b l bad : Int) (h : Lp w hb p R S A t b l bad)
    (id : Int) (T : Tree) (n : Nat) (hT : Pf (n + 1) T) (hq : bad = 0 → Has S A t id T) :
    Calls Try.prog 76 #[.pointer (some ⟨hb, 0, none⟩), .int .i64 id] w (LKidsPost w hb p R S A t b l bad T) := by
  have H := Lib.hid h
  have H2 := Lib.hid (h.alloc (.cells #[.int .i64 0, .int .i64 0, .int .i64 0, .int .i64 0] 50))
  have HR2 := Lib.hid (Lc.new h 50 #[.int .i64 0, .int .i64 0, .int .i64 0, .int .i64 0])
  have HS2 : Hid (StepN hb p R R w (w.alloc (.cells #[.int .i64 0, .int .i64 0, .int .i64 0, .int .i64 0] 50))) := (StepN.refl hb p R w).alloc _
  have c4 := H2.out.c4
  by_cases hb0 : bad = 0
  · subst hb0
    have HQ : Hid (Has S A t id (.node (T.kid 0) (T.kid 1) (T.kid 2) (T.kid 3))) := by have := hq rfl; rw [hT.eta] at this; exact this
    clear h hq
    go_enter Try.func76, Try.ntmps76
    go_wp2_with fail
    clear c4
    generalize w.alloc (.cells #[.int .i64 0, .int .i64 0, .int .i64 0, .int .i64 0] 50) = w2 at H2 HS2 HR2 ⊢
    have c0 := H2.out.c0
    have c1 := H2.out.c1
    have HK := Lib.hid (fun W hA => kids_any W p R S hA H2.out.inv.len t H2.out.ht id)
    have HLT := Lib.hid H2.out.blk.lt
    have HNE : Hid (hb ≠ w2.heap.size) := by have := HLT.out; show hb ≠ w2.heap.size; omega
    go_region_held3 (fun w' => w'.cell? ⟨hb, 0, none⟩ = some (.pointer (some ⟨p, 0, none⟩)) ∧ w'.cell? ⟨hb, 1, none⟩ = some (.int .i64 t))
      (first | (with_reducible exact ⟨c0, c1⟩) | (with_reducible exact ⟨e0, e1⟩) | (with_reducible exact keep_w4 HNE.out e0 e1 _ _ _ _) | go_keep)
      (first
        | (go_at_call 55; refine (HK.out _ (by exact H2.out.arm.drew)).mono ?_; rintro e w3 ⟨hk, hb3⟩; obtain ⟨k0, k1, k2, k3, rfl, h0, h1, h2, h3⟩ := kids_has H2.out.rel H2.out.ht HQ.out hk; have e0 := (hb3.cell (p := ⟨hb, 0, none⟩) HLT.out).trans c0; have e1 := (hb3.cell (p := ⟨hb, 1, none⟩) HLT.out).trans c1; have HM := Lib.hid (midq_a (k0 := k0) (k1 := k1) (k2 := k2) (k3 := k3) H2.out HS2.out HR2.out hb3))
        | (go_at_call 55; refine (HK.out _ (by exact (H2.out.arm.alloc _).drew)).mono ?_; rintro e w3 ⟨hk, hb3⟩; obtain ⟨k0, k1, k2, k3, rfl, h0, h1, h2, h3⟩ := kids_has H2.out.rel H2.out.ht HQ.out hk; have hlt1 : (⟨hb, 0, none⟩ : Addr).block < (w2.alloc (.cells #[.int .i64 0, .int .i64 0, .int .i64 0, .int .i64 0] 50)).drew.heap.size := (H2.out.alloc _).blk.lt; have e0 := (hb3.cell (p := ⟨hb, 0, none⟩) hlt1).trans ((World.cell?_alloc_lt w2 _ ⟨hb, 0, none⟩ HLT.out).trans c0); have e1 := (hb3.cell (p := ⟨hb, 1, none⟩) hlt1).trans ((World.cell?_alloc_lt w2 _ ⟨hb, 1, none⟩ HLT.out).trans c1); have HM := Lib.hid (midq_b (k0 := k0) (k1 := k1) (k2 := k2) (k3 := k3) H2.out HS2.out HR2.out hb3); have HZ := Lib.hid ((Blk.new w2 50 #[.int .i64 0, .int .i64 0, .int .i64 0, .int .i64 0]).drew.mod (Mod.of_below_all hb3) (fun h => h)); have z0 := HZ.out.cellS (i := 0) rfl; have z1 := HZ.out.cellS (i := 1) rfl; have z2 := HZ.out.cellS (i := 2) rfl; have z3 := HZ.out.cellS (i := 3) rfl; have f0 := HZ.out.frozen 0; have f1 := HZ.out.frozen 1; have f2 := HZ.out.frozen 2; have f3 := HZ.out.frozen 3))
    all_goals clear c0 c1 e0 e1 hk HK HLT HNE H2 HS2 HR2
    all_goals (first
      | (clear z0 z1 z2 z3 f0 f1 f2 f3 HZ
         generalize World.setCell _ _ _ = w5 at HM ⊢
         generalize w2.heap.size = qb at HM ⊢)
      | (generalize World.alloc w3 _ = w5 at HM ⊢
         generalize w3.heap.size = qb at HM ⊢))
    all_goals (
      have H01 : Hid (Has S A t k0 (T.kid 0) ∧ Has S A t k1 (T.kid 1) ∧ Has S A t k2 (T.kid 2) ∧ Has S A t k3 (T.kid 3)) := ⟨h0, h1, h2, h3⟩
      clear h0 h1 h2 h3
      go_wp2_with fail
      (with_reducible refine (lfail_any _ hb p R S A t b l 0 0 HM.out.lp).mono ?_)
      rintro e w6 ⟨rfl, hp6, hs6, _⟩
      rw [if_pos rfl] at hp6
      have HM6 := Lib.hid (HM.out.step hp6 hs6)
      clear HM hp6 hs6
      have q0 := HM6.out.q.cell (i := 0) rfl
      have q1 := HM6.out.q.cell (i := 1) rfl
      have q2 := HM6.out.q.cell (i := 2) rfl
      have q3 := HM6.out.q.cell (i := 3) rfl
      have r0 := HM6.out.r.cell (i := 0) rfl
      have r1 := HM6.out.r.cell (i := 1) rfl
      have r2 := HM6.out.r.cell (i := 2) rfl
      have r3 := HM6.out.r.cell (i := 3) rfl
      have g0 := HM6.out.r.frozen 0
      have g1 := HM6.out.r.frozen 1
      have g2 := HM6.out.r.frozen 2
      have g3 := HM6.out.r.frozen 3
      have HF := Lib.hid (HM6.out.fin (.int .i64 k0) (.int .i64 k1) (.int .i64 k2) (.int .i64 k3))
      go_wp2_with fail
      clear q0 q1 q2 q3 r0 r1 r2 r3 g0 g1 g2 g3 HM6
      generalize World.setCell _ _ _ = w7 at HF ⊢
      have s0 : w7.cell? ⟨w.heap.size, 0, none⟩ = some (.int .i64 k0) := HF.out.1.cell (i := 0) rfl
      have s1 : w7.cell? ⟨w.heap.size, 1, none⟩ = some (.int .i64 k1) := HF.out.1.cell (i := 1) rfl
      have s2 : w7.cell? ⟨w.heap.size, 2, none⟩ = some (.int .i64 k2) := HF.out.1.cell (i := 2) rfl
      have s3 : w7.cell? ⟨w.heap.size, 3, none⟩ = some (.int .i64 k3) := HF.out.1.cell (i := 3) rfl
      exact bodyPost_ret (v := .agg #[.int .i64 k0, .int .i64 k1, .int .i64 k2, .int .i64 k3]) (by simp [results, Try.results76, go_sem, s0, s1, s2, s3]) rfl ⟨k0, k1, k2, k3, rfl, fun _ => H01.out, fun e => absurd rfl e, HF.out.2.1, HF.out.2.2.fin⟩)
  · have hb1 : (bad == 0) = false := beq_eq_false_iff_ne.2 hb0
    have HB0 := Lib.hid hb0
    clear hb0 hq h
    go_enter Try.func76, Try.ntmps76
    go_wp2_with fail
    go_returns
    exact ⟨0, 0, 0, 0, rfl, fun e => absurd e HB0.out, fun _ => ⟨rfl, rfl, rfl, rfl⟩, H2.out, HS2.out.fin⟩
end Go.Proofs.Ytgdijlpkbbfedaa

namespace Go.Proofs.Ytgdijlpkbbfedaa
open Go.RowKit

def LevelPost (w : World) (hb : Nat) (ty : TypeId) (more : List Value) (p : Nat) (R : ArR) (S : ArS) (A : Nat → Abs) (t : Nat) (bad : Int) (T : Tree) (e : Ending) (w' : World) : Prop :=
  ∃ n : Int, e = .returned (.int .i64 n) ∧ (bad = 0 → n = T.lvl) ∧ Hd w' hb ty more p R S A t bad ∧ StepH (fun b => b = hb) p R R w w'

set_option maxRecDepth 100000 in
set_option maxHeartbeats 3200000 in
theorem hlevel_any (w : World) (hb : Nat) (ty : TypeId) (more : List Value) (p : Nat) (R : ArR) (S : ArS) (A : Nat → Abs) (t : Nat) (bad : Int) (h : Hd w hb ty more p R S A t bad)
    (id : Int) (T : Tree) (hq : bad = 0 → Has S A t id T) :
    Calls Try.prog 31 #[.pointer (some ⟨hb, 0, none⟩), .int .i64 id] w (LevelPost w hb ty more p R S A t bad T) := by
  have H := Lib.hid h
  have c2 := h.c2
  clear h
  by_cases hb0 : bad = 0
  · subst hb0
    have HQ0 := Lib.hid (hq rfl)
    clear hq
    have c0 := H.out.c0
    have c1 := H.out.c1
    have hk := level_any w.drew p R S H.out.arm.drew H.out.inv.len t H.out.ht id
    rw [if_pos (by rw [H.out.rel.owns H.out.ht HQ0.out.1]; exact HQ0.out.2)] at hk
    have HK := Lib.hid hk
    clear hk
    have HN := Lib.hid (HQ0.out.1.level H.out.inv)
    have f2 := H.out.f 2
    have HE : Hid (Hd (w.drew.setCell ⟨hb, 2, none⟩ (.int .i64 0)) hb ty more p R S A t 0) := H.out.drew.step H.out.arm.drew (Step.refl p R w.drew) (St.refl H.out.rel t) 0
    have HS3 : Hid (StepH (fun b => b = hb) p R R w (w.drew.setCell ⟨hb, 2, none⟩ (.int .i64 0))) := ((StepH.refl (fun b => b = hb) p R w).drew).set (q := ⟨hb, 2, none⟩) (fun _ => rfl) _
    go_enter Try.func31, Try.ntmps31
    go_wp2_with fail
    go_region_held3 (fun w' => w'.cell? ⟨hb, 0, none⟩ = some (.pointer (some ⟨p, 0, none⟩)) ∧ w'.cell? ⟨hb, 1, none⟩ = some (.int .i64 t))
      (first | (with_reducible exact ⟨c0, c1⟩) | go_keep)
      ((go_at_call 46; refine HK.out.mono ?_; rintro e w3 ⟨rfl, rfl⟩))
    go_wp2_with fail
    go_returns
    exact ⟨_, rfl, fun _ => HN.out, HE.out, HS3.out⟩
  · have hb1 : (bad == 0) = false := beq_eq_false_iff_ne.2 hb0
    have HB0 := Lib.hid hb0
    clear hb0 hq
    go_enter Try.func31, Try.ntmps31
    go_wp2_with fail
    go_returns
    exact ⟨0, rfl, fun e => absurd e HB0.out, H.out, StepH.refl _ p R w⟩

set_option maxRecDepth 100000 in
set_option maxHeartbeats 3200000 in
theorem done_any (w : World) (hb : Nat) (bad : Int) (c2 : w.cell? ⟨hb, 2, none⟩ = some (.int .i64 bad)) (id : Int) :
    Calls Try.prog 24 #[.pointer (some ⟨hb, 0, none⟩), .int .i64 id] w fun e w' => e = .returned (.tuple #[.int .i64 (if bad = 0 then id else 0), .int .i64 bad]) ∧ Below w.heap.size w w' := by
  by_cases hb0 : bad = 0
  · subst hb0
    rw [if_pos rfl]
    go_enter Try.func24, Try.ntmps24
    go_wp2_with fail
    go_returns
    exact ⟨rfl, Below.refl _ _⟩
  · rw [if_neg hb0]
    have hb1 : (bad == 0) = false := beq_eq_false_iff_ne.2 hb0
    clear hb0
    go_enter Try.func24, Try.ntmps24
    go_wp2_with fail
    go_region_held3 (fun w' => w'.cell? ⟨hb, 2, none⟩ = some (.int .i64 bad)) (first | exact c2 | go_keep) (fail)
    go_wp2_with fail
    go_returns
    exact ⟨rfl, (Below.refl _ _).drew⟩

theorem pow_i64 {n : Nat} (h : n ≤ 61) : (2 : Int) ^ n ≤ 2305843009213693952 := by
  have := Nat.pow_le_pow_right (n := 2) (by decide) h
  have h2 : ((2 ^ n : Nat) : Int) ≤ ((2 ^ 61 : Nat) : Int) := Int.ofNat_le.2 this
  rw [show (2 : Nat) ^ 61 = 2305843009213693952 by decide] at h2
  simpa using h2

set_option maxRecDepth 100000 in
theorem half_any (w : World) (n : Nat) (hn : n ≤ 61) : Calls Try.prog 23 #[.int .i64 ((n : Int) + 1)] w fun e w' => e = .returned (.int .i64 (2 ^ n)) ∧ w = w' := by
  have h1 := pow_i64 hn
  have h2 := pow_pos2 n
  go_enter Try.func23, Try.ntmps23
  go_wp2_with fail
  go_returns
  exact ⟨rfl, rfl⟩

/-- The work so far on the empty squares. -/
structure EmptyI (w : World) (hb : Nat) (ty : TypeId) (more : List Value) (p : Nat) (R : ArR) (S : ArS) (A : Nat → Abs) (t : Nat) (bad : Int) (i : Nat) (r : Int) (S' : ArS) (A' : Nat → Abs) (R' : ArR) (bad' : Int) (w' : World) : Prop where
  made : Made t (nodes (emptyT i)) S A bad S' A' bad'
  has : bad' = 0 → Has S' A' t r (emptyT i)
  hd : Hd w' hb ty more p R' S' A' t bad'
  st : StepH (fun b => b = hb) p R R' w w'
theorem Has.dead {S : ArS} {A : Nat → Abs} {t : Nat} : Has S A t 0 .dead := ⟨by simp only [Den], rfl⟩
theorem Has.alive {S : ArS} {A : Nat → Abs} {t : Nat} : Has S A t 1 .alive := ⟨by simp only [Den], rfl⟩
theorem Made.next {S S1 S2 : ArS} {A A1 A2 : Nat → Abs} {t : Nat} {L L1 : List Thing} {bad bad1 bad2 : Int} (h : Made t L S A bad S1 A1 bad1) (k : Made t L1 S1 A1 bad1 S2 A2 bad2) (hl : ∀ x ∈ L, x ∈ L1) : Made t L1 S A bad S2 A2 bad2 :=
  (h.trans k).of (fun x hx => by
    rcases List.mem_append.1 hx with a | a
    · exact hl x a
    · exact a) (fun _ x hx => .inl (List.mem_append_right _ hx))
theorem nodes_blank (i : Nat) : ∀ x ∈ nodes (emptyT i), x ∈ nodes (emptyT (i + 1)) := fun x hx => by
  rw [nodes_emptyT] at hx ⊢; exact List.mem_cons_of_mem _ hx

set_option maxRecDepth 100000 in
set_option maxHeartbeats 3200000 in
theorem hempty_any (w : World) (hb : Nat) (ty : TypeId) (more : List Value) (p : Nat) (R : ArR) (S : ArS) (A : Nat → Abs) (t : Nat) (bad : Int) (h : Hd w hb ty more p R S A t bad) (n : Nat) (hn : n ≤ 44) :
    Calls Try.prog 42 #[.pointer (some ⟨hb, 0, none⟩), .int .i64 n] w (HandPost w hb ty more p R S A t bad (emptyT n)) := by
  have H := Lib.hid h
  clear h
  go_enter Try.func42, Try.ntmps42
  go_wp2_with fail
  go_loopw [5, 7] (fun r iv wx => ∃ (i : Nat) (rn : Int) (S' : ArS) (A' : Nat → Abs) (R' : ArR) (bad' : Int), iv = .int .i64 i ∧ i ≤ n ∧ r = .int .i64 rn ∧ EmptyI w hb ty more p R S A t bad i rn S' A' R' bad' wx) (fun _ iv _ => n - (intOf iv).toNat)
  case atStart => exact ⟨0, 0, S, A, R, bad, rfl, Nat.zero_le _, rfl, Made.refl H.out.rel t bad, fun _ => Has.dead, H.out, StepH.refl _ p R w⟩
  case round =>
    obtain ⟨i, rn, S', A', R', bad', rfl, hi, rfl, hE⟩ := hrel
    have HE := Lib.hid hE
    clear hE
    by_cases hin : i < n
    · have hlt : (i : Int) < n := by omega
      have hwi := wrap_nat' i (by unfold maxLen; omega)
      have HI := Lib.hid hin
      have HJ := Lib.hid (hjoin_any wr hb ty more p R' S' A' t bad' HE.out.hd rn rn rn rn (emptyT i) (emptyT i) (emptyT i) (emptyT i) i (fun e => ⟨HE.out.has e, HE.out.has e, HE.out.has e, HE.out.has e⟩) ⟨emptyT_lvl i, emptyT_lvl i, emptyT_lvl i, emptyT_lvl i⟩ (by omega))
      clear hin hi
      go_wp2_with fail
      (with_reducible refine HJ.out.mono ?_)
      rintro e w3 ⟨r, S2, A2, R2, bad2, rfl, hm, hh, hd, hst⟩
      have HE2 : Hid (EmptyI w hb ty more p R S A t bad (i + 1) r S2 A2 R2 bad2 w3) := ⟨HE.out.made.next hm (nodes_blank i), hh, hd, HE.out.st.trans hst⟩
      clear hm hh hd hst HJ
      go_wp2_with fail
      go_roundw
      case rel => exact ⟨i + 1, r, S2, A2, R2, bad2, by go_num, HI.out, rfl, HE2.out⟩
      case measure => simp [intOf]; have := HI.out; omega
    · have hi5 : i = n := by omega
      subst hi5
      clear hin hi
      go_wp2_with fail
      go_returns
      exact ⟨rn, S', A', R', bad', rfl, HE.out.made, HE.out.has, HE.out.hd, HE.out.st⟩
end Go.Proofs.Ytgdijlpkbbfedaa
