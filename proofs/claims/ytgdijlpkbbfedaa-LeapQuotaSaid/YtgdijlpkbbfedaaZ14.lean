/- quad: what Peel and Wrap do, in plain words. · quad: walk; what Peel's loops keep. · quad: Peel. · quad: Wrap. -/
import Derived.Deep.DeepCutAuto
import Derived.Test.YtgdijlpkbbfedaaZ13

namespace Go.Proofs.Ytgdijlpkbbfedaa
open Go.RowKit

/-- The square j in the part k of the root of level n + 2. -/
def T2 (P : Int → Int → Bool) (n : Nat) (k j : Nat) : Tree := subT P n (gx (2 ^ (n + 1)) (-2 ^ (n + 1)) k) (gy (2 ^ (n + 1)) (-2 ^ (n + 1)) k) j
theorem T2_kid (P : Int → Int → Bool) (n k : Nat) : subT P (n + 1) (-2 ^ (n + 1)) (-2 ^ (n + 1)) k = .node (T2 P n k 0) (T2 P n k 1) (T2 P n k 2) (T2 P n k 3) := by
  unfold T2; rw [← subT_all]; rfl
theorem T2_lvl (P : Int → Int → Bool) (n k j : Nat) : (T2 P n k j).lvl = n := subT_lvl _ _ _ _ _
theorem four_cases {k : Nat} (h : k < 4) : k = 0 ∨ k = 1 ∨ k = 2 ∨ k = 3 := by omega
/-- The inner four are the root of one level less. -/
theorem T2_inner (P : Int → Int → Bool) (n : Nat) : rootT P n = .node (T2 P n 0 3) (T2 P n 1 2) (T2 P n 2 1) (T2 P n 3 0) := by
  unfold rootT
  rw [subT_all]
  have h : (2 : Int) ^ (n + 1) = 2 ^ n * 2 := Int.pow_succ 2 n
  have e : ∀ k, k < 4 → subT P n (-2 ^ n) (-2 ^ n) k = T2 P n k (3 - k) := fun k hk => by
    unfold T2 subT
    rw [h]
    rcases four_cases hk with rfl | rfl | rfl | rfl
    · simp only [gx, gy]; congr 1 <;> simp <;> omega
    · simp only [gx, gy]; congr 1 <;> simp <;> omega
    · simp only [gx, gy]; congr 1 <;> simp <;> omega
    · simp only [gx, gy]; congr 1 <;> simp <;> omega
  rw [e 0 (by decide), e 1 (by decide), e 2 (by decide), e 3 (by decide)]
/-- All that lives in the root of level k + 1 lies in the root of level n + 1. -/
def Fits (P : Int → Int → Bool) (k n : Nat) : Prop := ∀ a b, inB (k + 1) (-2 ^ k) (-2 ^ k) a b → P a b = true → inB (n + 1) (-2 ^ n) (-2 ^ n) a b
theorem inB_T2 {n : Nat} {a b : Int} (h : inB (n + 2) (-2 ^ (n + 1)) (-2 ^ (n + 1)) a b) : ∃ k j, k < 4 ∧ j < 4 ∧ inB n (gx (2 ^ n) (gx (2 ^ (n + 1)) (-2 ^ (n + 1)) k) j) (gy (2 ^ n) (gy (2 ^ (n + 1)) (-2 ^ (n + 1)) k) j) a b := by
  have key : ∀ {m : Nat} {x y : Int}, inB (m + 1) x y a b → ∃ k, k < 4 ∧ inB m (gx (2 ^ m) x k) (gy (2 ^ m) y k) a b := fun {m x y} h => by
    rcases inB.up.1 h with q | q | q | q
    · exact ⟨0, by decide, q⟩
    · exact ⟨1, by decide, q⟩
    · exact ⟨2, by decide, q⟩
    · exact ⟨3, by decide, q⟩
  obtain ⟨k, hk, h1⟩ := key h
  obtain ⟨j, hj, h2⟩ := key h1
  exact ⟨k, j, hk, hj, h2⟩
theorem inB_of_T2 {n k j : Nat} {a b : Int} (hk : k < 4) (hj : j < 4) (h : inB n (gx (2 ^ n) (gx (2 ^ (n + 1)) (-2 ^ (n + 1)) k) j) (gy (2 ^ n) (gy (2 ^ (n + 1)) (-2 ^ (n + 1)) k) j) a b) : inB (n + 2) (-2 ^ (n + 1)) (-2 ^ (n + 1)) a b := sub_in hk (sub_in hj h)
theorem T2_in {n k j : Nat} {a b : Int} (hk : k < 4) (hj : j < 4) (h : inB n (gx (2 ^ n) (gx (2 ^ (n + 1)) (-2 ^ (n + 1)) k) j) (gy (2 ^ n) (gy (2 ^ (n + 1)) (-2 ^ (n + 1)) k) j) a b) : inB (n + 1) (-2 ^ n) (-2 ^ n) a b ↔ j = 3 - k := by
  have hp := pow_pos2 n
  unfold inB at h ⊢
  rw [show (2 : Int) ^ (n + 1) = 2 ^ n * 2 from Int.pow_succ 2 n] at h ⊢
  generalize (2 : Int) ^ n = z at *
  unfold gx gy at h
  rcases four_cases hk with rfl | rfl | rfl | rfl <;> rcases four_cases hj with rfl | rfl | rfl | rfl <;> simp at h <;> constructor <;> intro q <;> omega
/-- The part k but its inner square is empty. -/
def outerB (U : Nat → Nat → Tree) (k j : Nat) : Bool := (List.range j).all fun i => decide (i = 3 - k) || blankT (U k i)
def fitB (U : Nat → Nat → Tree) (k : Nat) : Bool := (List.range k).all fun i => outerB U i 4
theorem outerB_succ (U : Nat → Nat → Tree) (k j : Nat) : outerB U k (j + 1) = (outerB U k j && (decide (j = 3 - k) || blankT (U k j))) := by
  unfold outerB; rw [List.range_succ, List.all_append]; simp
theorem fitB_succ (U : Nat → Nat → Tree) (k : Nat) : fitB U (k + 1) = (fitB U k && outerB U k 4) := by
  unfold fitB; rw [List.range_succ, List.all_append]; simp
theorem fitB_iff (U : Nat → Nat → Tree) : fitB U 4 = true ↔ ∀ k, k < 4 → ∀ j, j < 4 → j ≠ 3 - k → blankT (U k j) = true := by
  unfold fitB outerB
  simp only [List.all_eq_true, List.mem_range, Bool.or_eq_true, decide_eq_true_eq]
  constructor
  · intro h k hk j hj hne
    rcases h k hk j hj with q | q
    · exact absurd q hne
    · exact q
  · intro h k hk j hj
    by_cases e : j = 3 - k
    · exact .inl e
    · exact .inr (h k hk j hj e)
theorem fits_iff (P : Int → Int → Bool) (n : Nat) : fitB (T2 P n) 4 = true ↔ Fits P (n + 1) n := by
  rw [fitB_iff]
  constructor
  · intro h a b hb hp
    obtain ⟨k, j, hk, hj, h2⟩ := inB_T2 hb
    rw [T2_in hk hj h2]
    by_cases e : j = 3 - k
    · exact e
    · have := (blankT_of P n _ _).1 (h k hk j hj e) a b h2
      rw [this] at hp; cases hp
  · intro h k hk j hj hne
    refine (blankT_of P n _ _).2 fun a b hb => ?_
    cases hp : P a b
    · rfl
    · exact absurd ((T2_in hk hj hb).1 (h a b (inB_of_T2 hk hj hb) hp)) hne
theorem Fits.refl (P : Int → Int → Bool) (k : Nat) : Fits P k k := fun _ _ h _ => h
theorem root_mono {k n : Nat} (h : n ≤ k) {a b : Int} (hb : inB (n + 1) (-2 ^ n) (-2 ^ n) a b) : inB (k + 1) (-2 ^ k) (-2 ^ k) a b := by
  have h1 := Nat.pow_le_pow_right (n := 2) (by decide) h
  have h2 : ((2 ^ n : Nat) : Int) ≤ ((2 ^ k : Nat) : Int) := Int.ofNat_le.2 h1
  have h3 : (2 : Int) ^ n ≤ 2 ^ k := by simpa using h2
  unfold inB at hb ⊢
  rw [Int.pow_succ] at hb ⊢
  omega
theorem Fits.trans {P : Int → Int → Bool} {k n m : Nat} (h : Fits P k n) (g : Fits P n m) : Fits P k m := fun a b hb hp => g a b (h a b hb hp) hp
end Go.Proofs.Ytgdijlpkbbfedaa

namespace Go.Proofs.Ytgdijlpkbbfedaa
open Go.RowKit

def WalkPost (w : World) (p : Nat) (R : ArR) (S : ArS) (A : Nat → Abs) (t : Nat) (e : Ending) (w' : World) : Prop :=
  ∃ wb mb : Nat, e = .returned (.pointer (some ⟨wb, 0, none⟩)) ∧ Wk w' wb mb p R S A t 0 [] (fun _ => 0) ∧ Below w.heap.size w w' ∧ w.heap.size ≤ wb ∧ w.heap.size ≤ mb

set_option maxRecDepth 100000 in
set_option maxHeartbeats 3200000 in
theorem walk_any (w : World) (p : Nat) (R : ArR) (S : ArS) (A : Nat → Abs) (h : Ar w p R S A) (t : Nat) (ht : t < 64) :
    Calls Try.prog 30 #[.pointer (some ⟨p, 0, none⟩), .int .i64 t] w (WalkPost w p R S A t) := by
  have hmm := @run_makeMap Try.prog
  have hA1 : Ar (w.alloc (.map #[] 0)) p R S A := h.below ((Below.refl _ _).alloc (Nat.le_refl _) _)
  have hd := hA1.hd ht WT [.map (some w.heap.size)]
  have hM : MapN ((w.alloc (.map #[] 0)).alloc (.cells (handC p t 0 [.map (some w.heap.size)]) WT)) w.heap.size [] (fun _ => 0) := (MapN.made w).of_block (Below.heap_alloc _ _ _ (by simp))
  have hno : ¬ Own p R w.heap.size := fun ho => Nat.lt_irrefl _ (h.arm.own_lt ho)
  rw [World.size_alloc] at hd
  have HF : Hid (WalkPost w p R S A t (.returned (.pointer (some ⟨w.heap.size + 1, 0, none⟩))) ((w.alloc (.map #[] 0)).alloc (.cells (handC p t 0 [.map (some w.heap.size)]) WT))) :=
    ⟨_, _, rfl, ⟨hd, hM, hno, List.nodup_nil, (fun x hx => by cases hx), fun x _ => rfl⟩, ((Below.refl _ _).alloc (Nat.le_refl _) _).alloc (by simp) _, by omega, Nat.le_refl _⟩
  clear h hA1 hd hM hno
  go_enter Try.func30, Try.ntmps30
  go_wp2_with fail
  go_ret
  exact HF.out

/-- Four numbers come out of a call into a new block. -/
structure KidsIn (w : World) (hb : Nat) (ty : TypeId) (more : List Value) (p : Nat) (R : ArR) (S : ArS) (A : Nat → Abs) (t : Nat) (bad : Int) (r : Nat → Int) (w5 : World) (rb : Nat) : Prop where
  hd : Hd w5 hb ty more p R S A t bad
  r : Blk w5 rb 50 (QC r)
  lo : w.heap.size ≤ rb
  st : StepH (fun b => b = hb) p R R w w5
section
variable {w w3 : World} {hb : Nat} {ty : TypeId} {more : List Value} {p : Nat} {R : ArR} {S : ArS} {A : Nat → Abs} {t : Nat} {bad : Int} {r : Nat → Int}
theorem kin_a (hd : Hd w3 hb ty more p R S A t bad) (hs : StepH (fun b => b = hb) p R R w.drew w3) : KidsIn w hb ty more p R S A t bad r (w3.alloc (.cells #[.int .i64 (r 0), .int .i64 (r 1), .int .i64 (r 2), .int .i64 (r 3)] 50)) w3.heap.size :=
  ⟨hd.alloc _, Blk.new _ _ _, hs.mod.size, (((StepH.refl (fun b => b = hb) p R w).drew).trans hs).alloc _⟩
theorem kin_b (h : Hd w hb ty more p R S A t bad) (hd : Hd w3 hb ty more p R S A t bad) (hs : StepH (fun b => b = hb) p R R (w.alloc (.cells #[.int .i64 0, .int .i64 0, .int .i64 0, .int .i64 0] 50)).drew w3) :
    KidsIn w hb ty more p R S A t bad r ((((w3.setCell ⟨w.heap.size, 0, none⟩ (.int .i64 (r 0))).setCell ⟨w.heap.size, 1, none⟩ (.int .i64 (r 1))).setCell ⟨w.heap.size, 2, none⟩ (.int .i64 (r 2))).setCell ⟨w.heap.size, 3, none⟩ (.int .i64 (r 3))) w.heap.size := by
  have hlt := h.blk.lt
  have hno : ¬ Own p R w.heap.size := fun ho => Nat.lt_irrefl _ (h.arm.own_lt ho)
  have hz := (Blk.new w 50 #[.int .i64 0, .int .i64 0, .int .i64 0, .int .i64 0]).drew.mod hs.mod (fun ho => by
    rcases ho with ho | ho
    · exact hno ho
    · omega)
  have hm4 : Mod (fun b => b = w.heap.size) w3 ((((w3.setCell ⟨w.heap.size, 0, none⟩ (.int .i64 (r 0))).setCell ⟨w.heap.size, 1, none⟩ (.int .i64 (r 1))).setCell ⟨w.heap.size, 2, none⟩ (.int .i64 (r 2))).setCell ⟨w.heap.size, 3, none⟩ (.int .i64 (r 3))) :=
    ((((Mod.refl (fun b => b = w.heap.size) w3).set (p := ⟨w.heap.size, 0, none⟩) (fun _ => rfl) _).set (p := ⟨w.heap.size, 1, none⟩) (fun _ => rfl) _).set (p := ⟨w.heap.size, 2, none⟩) (fun _ => rfl) _).set (p := ⟨w.heap.size, 3, none⟩) (fun _ => rfl) _
  refine ⟨hd.keep hm4 (fun b hb e => by subst e; exact hno hb) (by omega), (((hz.set 0 _).set 1 _).set 2 _).set 3 _, Nat.le_refl _, ?_⟩
  have s1 := ((StepH.refl (fun b => b = hb) p R w).alloc (.cells #[.int .i64 0, .int .i64 0, .int .i64 0, .int .i64 0] 50)).drew.trans hs
  exact ⟨s1.mod.trans hm4 (fun b hb e => by omega), s1.own⟩
theorem keep_one {z c j : Nat} {v : Value} (hne : c ≠ z) (e : w.cell? ⟨c, j, none⟩ = some v) (u0 u1 u2 u3 : Value) :
    ((((w.setCell ⟨z, 0, none⟩ u0).setCell ⟨z, 1, none⟩ u1).setCell ⟨z, 2, none⟩ u2).setCell ⟨z, 3, none⟩ u3).cell? ⟨c, j, none⟩ = some v :=
  (World.cell?_of_block (a := ⟨c, j, none⟩) (by
    show _ = w.heap[c]?
    rw [Below.heap_setCell _ _ _ _ hne, Below.heap_setCell _ _ _ _ hne, Below.heap_setCell _ _ _ _ hne, Below.heap_setCell _ _ _ _ hne])).trans e
end
/-- The trees that Peel meets: none, where something went wrong. -/
def UT (P : Int → Int → Bool) (n : Nat) (bad : Int) (k j : Nat) : Tree := if bad = 0 then T2 P n k j else .dead
theorem UT_ok (P : Int → Int → Bool) (n : Nat) {bad : Int} (e : bad = 0) : UT P n bad = T2 P n := by funext k j; unfold UT; rw [if_pos e]
theorem UT_fits {P : Int → Int → Bool} {n : Nat} {bad : Int} {B : Bool} (h : fitB (UT P n bad) 4 = B) (e : bad = 0) : B = true ↔ Fits P (n + 1) n := by
  rw [← h, UT_ok P n e]; exact fits_iff P n
/-- k of the four parts are looked at. -/
structure PeelI (w : World) (wb mb qb pb : Nat) (p : Nat) (R : ArR) (S : ArS) (A : Nat → Abs) (t : Nat) (bad : Int) (P : Int → Int → Bool) (n : Nat) (Q : Nat → Int) (k : Nat) (V : Nat → Int) (K : List Int) (m : Int → Int) (wx : World) : Prop where
  wk : Wk wx wb mb p R S A t bad K m
  q : Blk wx qb 50 (QC Q)
  v : Blk wx pb 50 (QC V)
  has : bad = 0 → ∀ i, i < k → Has S A t (V i) (T2 P n i (3 - i))
  st : StepH (fun b => WX wb mb b ∨ b = pb) p R R w wx
section
variable {w wx w5 w6 : World} {wb mb qb pb rb p t : Nat} {R : ArR} {S : ArS} {A : Nat → Abs} {bad : Int} {P : Int → Int → Bool} {n k : Nat} {Q V r : Nat → Int} {K K' : List Int} {m m' : Int → Int}
/-- The blocks of Peel's own. -/
structure PeelB (w : World) (wb mb qb pb p : Nat) (R : ArR) : Prop where
  lq : qb < w.heap.size
  lp : pb < w.heap.size
  nq : ¬ Own p R qb
  np : ¬ Own p R pb
  q1 : qb ≠ wb
  q2 : qb ≠ mb
  q3 : qb ≠ pb
  p1 : pb ≠ wb
  p2 : pb ≠ mb
theorem PeelI.walk (h : PeelI w wb mb qb pb p R S A t bad P n Q k V K m wx) (hB : PeelB w wb mb qb pb p R) (hw : Wk w5 wb mb p R S A t bad K' m') (hs : StepH (WX wb mb) p R R wx w5) : PeelI w wb mb qb pb p R S A t bad P n Q k V K' m' w5 :=
  ⟨hw, h.q.mod hs.mod fun ho => by
    rcases ho with ho | ho | ho
    · exact hB.nq ho
    · exact hB.q1 ho
    · exact hB.q2 ho, h.v.mod hs.mod fun ho => by
    rcases ho with ho | ho | ho
    · exact hB.np ho
    · exact hB.p1 ho
    · exact hB.p2 ho, h.has, h.st.trans (hs.wide fun b _ e => .inl e)⟩
theorem PeelI.kids (h : PeelI w wb mb qb pb p R S A t bad P n Q k V K m wx) (hB : PeelB w wb mb qb pb p R) (hk : KidsIn wx wb WT [.map (some mb)] p R S A t bad r w5 rb) : PeelI w wb mb qb pb p R S A t bad P n Q k V K m w5 :=
  h.walk hB (h.wk.hand hk.hd hk.st (St.refl h.wk.hd.rel t)) (hk.st.wide fun _b _ e => .inl e)
theorem PeelI.set (h : PeelI w wb mb qb pb p R S A t bad P n Q k V K m wx) (hB : PeelB w wb mb qb pb p R) (hk : k < 4) {x : Int} (hx : bad = 0 → Has S A t x (T2 P n k (3 - k))) : PeelI w wb mb qb pb p R S A t bad P n Q (k + 1) (upd V k x) K m (wx.setCell ⟨pb, k, none⟩ (.int .i64 x)) := by
  have hm1 : Mod (fun b => b = pb) wx (wx.setCell ⟨pb, k, none⟩ (.int .i64 x)) := (Mod.refl (fun b => b = pb) wx).set (p := ⟨pb, k, none⟩) (fun _ => rfl) _
  refine ⟨⟨h.wk.hd.keep hm1 (fun b hb e => by subst e; exact hB.np hb) (Ne.symm hB.p1), h.wk.map.mod hm1 (Ne.symm hB.p2), h.wk.no, h.wk.nodup, h.wk.memo, h.wk.none⟩, h.q.mod hm1 hB.q3, by rw [← QC_set V hk]; exact h.v.set k _, fun e i hi => ?_, h.st.set (q := ⟨pb, k, none⟩) (fun _ => .inr rfl) _⟩
  by_cases e2 : i = k
  · subst e2; rw [upd_same]; exact hx e
  · rw [upd_ne _ _ e2]; exact h.has e i (by omega)
theorem peel_rb (h : PeelI w wb mb qb pb p R S A t bad P n Q k V K m wx) (hlo : wx.heap.size ≤ rb) : rb ≠ pb ∧ rb ≠ wb ∧ rb ≠ mb ∧ ¬ Own p R rb := by
  have h1 := h.v.lt
  have h2 := h.wk.hd.blk.lt
  have h3 := h.wk.map.lt
  exact ⟨by omega, by omega, by omega, fun ho => by have := h.wk.hd.arm.own_lt ho; omega⟩
theorem four_fn (a b c d : Int) : ∃ r : Nat → Int, r 0 = a ∧ r 1 = b ∧ r 2 = c ∧ r 3 = d := ⟨fun k => if k = 0 then a else if k = 1 then b else if k = 2 then c else d, rfl, rfl, rfl, rfl⟩
theorem peel_start (h : Wk wx wb mb p R S A t bad K m) : PeelI ((wx.alloc (.cells #[.int .i64 (Q 0), .int .i64 (Q 1), .int .i64 (Q 2), .int .i64 (Q 3)] 50)).alloc (.cells #[.int .i64 0, .int .i64 0, .int .i64 0, .int .i64 0] 50)) wb mb wx.heap.size (wx.heap.size + 1) p R S A t bad P n Q 0 (fun _ => 0) K m ((wx.alloc (.cells #[.int .i64 (Q 0), .int .i64 (Q 1), .int .i64 (Q 2), .int .i64 (Q 3)] 50)).alloc (.cells #[.int .i64 0, .int .i64 0, .int .i64 0, .int .i64 0] 50)) ∧
    PeelB ((wx.alloc (.cells #[.int .i64 (Q 0), .int .i64 (Q 1), .int .i64 (Q 2), .int .i64 (Q 3)] 50)).alloc (.cells #[.int .i64 0, .int .i64 0, .int .i64 0, .int .i64 0] 50)) wb mb wx.heap.size (wx.heap.size + 1) p R := by
  have h1 := h.hd.blk.lt
  have h2 := h.map.lt
  have hno : ∀ b, wx.heap.size ≤ b → ¬ Own p R b := fun b hb ho => by have := h.hd.arm.own_lt ho; omega
  have hb := ((Below.refl wx.heap.size wx).alloc (Nat.le_refl _) (.cells #[.int .i64 (Q 0), .int .i64 (Q 1), .int .i64 (Q 2), .int .i64 (Q 3)] 50)).alloc (by simp) (.cells #[.int .i64 0, .int .i64 0, .int .i64 0, .int .i64 0] 50)
  refine ⟨⟨h.below hb, (Blk.new wx _ _).alloc _, ?_, fun _ i hi => absurd hi (Nat.not_lt_zero _), StepH.refl _ p R _⟩, ⟨by simp; omega, by simp, hno _ (Nat.le_refl _), hno _ (by omega), by omega, by omega, by omega, by omega, by omega⟩⟩
  have := Blk.new (wx.alloc (.cells #[.int .i64 (Q 0), .int .i64 (Q 1), .int .i64 (Q 2), .int .i64 (Q 3)] 50)) 50 #[.int .i64 0, .int .i64 0, .int .i64 0, .int .i64 0]
  rw [World.size_alloc] at this
  exact this
/-- Empty, whatever went wrong. -/
theorem wempty_gen (h : Wk wx wb mb p R S A t bad K m) {U : Tree} {id : Int} (h0 : bad = 0 → Has S A t id U) (h1 : bad ≠ 0 → id = 0 ∧ U = .dead) :
    Calls Try.prog 45 #[.pointer (some ⟨wb, 0, none⟩), .int .i64 id] wx (WEPost wx wb mb p R S A t bad U) := by
  by_cases e : bad = 0
  · subst e; exact wempty_any U wx wb mb p R S A t K m h id (h0 rfl)
  · obtain ⟨rfl, rfl⟩ := h1 e
    exact wempty_two wx wb mb p R S A t bad K m h .dead 0 (by simp only [Den]) (by decide)
end
end Go.Proofs.Ytgdijlpkbbfedaa

namespace Go.Proofs.Ytgdijlpkbbfedaa
open Go.RowKit

def PeelPost (w : World) (p : Nat) (R : ArR) (S : ArS) (A : Nat → Abs) (t : Nat) (P : Int → Int → Bool) (k : Nat) (e : Ending) (w' : World) : Prop :=
  ∃ (κ : Nat) (L : List Thing) (r : Int) (S' : ArS) (A' : Nat → Abs) (R' : ArR) (bad' : Int), e = .returned (.tuple #[.int .i64 (if bad' = 0 then r else 0), .int .i64 bad']) ∧ 1 ≤ κ ∧ κ ≤ k ∧ L.length ≤ k ∧ Made t L S A 0 S' A' bad' ∧ (bad' = 0 → Has S' A' t r (rootT P κ) ∧ Fits P k κ ∧ (κ = 1 ∨ ¬ Fits P κ (κ - 1))) ∧ Ar w' p R' S' A' ∧ StepH NoX p R R' w w'
/-- What Peel's loop keeps. -/
structure PeelL (w1 : World) (wb mb p : Nat) (R : ArR) (S : ArS) (A : Nat → Abs) (t : Nat) (P : Int → Int → Bool) (k κ : Nat) (r : Int) (L : List Thing) (S' : ArS) (A' : Nat → Abs) (R' : ArR) (bad' : Int) (K : List Int) (m : Int → Int) (wx : World) : Prop where
  le : κ ≤ k
  len : L.length + κ ≤ k
  made : Made t L S A 0 S' A' bad'
  has : bad' = 0 → Has S' A' t r (rootT P κ) ∧ Fits P k κ
  wk : Wk wx wb mb p R' S' A' t bad' K m
  st : StepH (WX wb mb) p R R' w1 wx
theorem peel_end {w w1 wx w' : World} {wb mb p : Nat} {R R' : ArR} {S S' : ArS} {A A' : Nat → Abs} {t : Nat} {P : Int → Int → Bool} {k κ : Nat} {r : Int} {L : List Thing} {bad' : Int} {K : List Int} {m : Int → Int} (h : PeelL w1 wb mb p R S A t P k κ r L S' A' R' bad' K m wx) (h1 : 1 ≤ κ) (hs : bad' = 0 → κ = 1 ∨ ¬ Fits P κ (κ - 1)) (hb : Below w.heap.size w w1) (l1 : w.heap.size ≤ wb) (l2 : w.heap.size ≤ mb) (hb' : Below wx.heap.size wx w') :
    PeelPost w p R S A t P k (.returned (.tuple #[.int .i64 (if bad' = 0 then r else 0), .int .i64 bad'])) w' :=
  ⟨κ, L, r, S', A', R', bad', rfl, h1, h.le, by have := h.len; omega, h.made, fun e => ⟨(h.has e).1, (h.has e).2, hs e⟩, (h.wk.hd.below hb').ar, (((StepH.of_below hb).trans h.st).wide fun b hlt e => by
    rcases e with e | e
    · omega
    · omega).below hb'⟩

theorem peel_next {w1 wr w6 : World} {wb mb p : Nat} {R R' R2 : ArR} {S S' S2 : ArS} {A A' A2 : Nat → Abs} {t : Nat} {P : Int → Int → Bool} {k n : Nat} {r x : Int} {L : List Thing} {bad2 : Int} {K : List Int} {m : Int → Int} {V : Nat → Int} (h : PeelL w1 wb mb p R S A t P k (n + 1) r L S' A' R' 0 K m wr)
    (hv : ∀ i, i < 4 → Has S' A' t (V i) (T2 P n i (3 - i))) (hf : Fits P (n + 1) n) (hm : Made t (nodes (.node (T2 P n 0 3) (T2 P n 1 2) (T2 P n 2 1) (T2 P n 3 0))) S' A' 0 S2 A2 bad2) (hh : bad2 = 0 → Has S2 A2 t x (.node (T2 P n 0 3) (T2 P n 1 2) (T2 P n 2 1) (T2 P n 3 0)))
    (hd : Hd w6 wb WT [.map (some mb)] p R2 S2 A2 t bad2) (hst : StepH (fun b => b = wb) p R' R2 wr.drew w6) :
    PeelL w1 wb mb p R S A t P k n x (L ++ [.sq (T2 P n 0 3) (T2 P n 1 2) (T2 P n 2 1) (T2 P n 3 0)]) S2 A2 R2 bad2 K m w6 := by
  have hst' : StepH (fun b => b = wb) p R' R2 wr w6 := (StepH.refl (fun b => b = wb) p R' wr).drew.trans hst
  have hm1 : Made t [.sq (T2 P n 0 3) (T2 P n 1 2) (T2 P n 2 1) (T2 P n 3 0)] S' A' 0 S2 A2 bad2 := hm.shrink h.wk.hd.rel h.wk.hd.ht (fun y hy => by rw [List.mem_singleton.1 hy]; exact mem_nodes.2 (.inl rfl)) fun y hy => by
    rcases mem_nodes.1 hy with q | q | q | q | q
    · exact .inl (List.mem_singleton.2 q)
    · exact .inr (h.wk.hd.rel.nodes_has h.wk.hd.ht (hv 0 (by decide)).2 y q)
    · exact .inr (h.wk.hd.rel.nodes_has h.wk.hd.ht (hv 1 (by decide)).2 y q)
    · exact .inr (h.wk.hd.rel.nodes_has h.wk.hd.ht (hv 2 (by decide)).2 y q)
    · exact .inr (h.wk.hd.rel.nodes_has h.wk.hd.ht (hv 3 (by decide)).2 y q)
  have hle := h.le
  have hln := h.len
  exact ⟨by omega, by rw [List.length_append, List.length_singleton]; omega, h.made.trans hm1, fun e => ⟨by rw [T2_inner]; exact hh e, (h.has rfl).2.trans hf⟩, h.wk.hand hd hst' hm.st, h.st.trans (hst'.wide fun b _ e => .inl e)⟩

set_option maxRecDepth 100000 in
set_option maxHeartbeats 6400000 in
theorem peel_any (w : World) (p : Nat) (R : ArR) (S : ArS) (A : Nat → Abs) (h : Ar w p R S A) (t : Nat) (ht : t < 64) (P : Int → Int → Bool) (k : Nat) (h1 : 1 ≤ k) (hk : k ≤ 43) (root : Int) (hr : Has S A t root (rootT P k)) :
    Calls Try.prog 27 #[.pointer (some ⟨p, 0, none⟩), .int .i64 t, .int .i64 root] w (PeelPost w p R S A t P k) := by
  have HK43 := Lib.hid hk
  have HR := Lib.hid hr
  have HW := Lib.hid (walk_any w p R S A h t ht)
  clear h hr hk ht
  go_enter Try.func27, Try.ntmps27
  go_wp2_with fail
  (with_reducible refine HW.out.mono ?_)
  rintro e w1 ⟨wb, mb, rfl, hw1, hb1, hl1, hl2⟩
  have HW1 := Lib.hid hw1
  have HB1 := Lib.hid hb1
  have HL1 := Lib.hid hl1
  have HL2 := Lib.hid hl2
  have HV := Lib.hid (hlevel_any w1 wb WT [.map (some mb)] p R S A t 0 hw1.hd root (rootT P k) (fun _ => HR.out))
  clear hw1 hb1 hl1 hl2 HW
  go_wp2_with fail
  (with_reducible refine HV.out.mono ?_)
  rintro e w2 ⟨lv, rfl, hlv, hd2, hs2⟩
  have hlv2 := hlv rfl
  rw [rootT_lvl] at hlv2
  subst hlv2
  have HW2 := Lib.hid (HW1.out.hand hd2 hs2 (St.refl HW1.out.hd.rel t))
  have HS2 : Hid (StepH (WX wb mb) p R R w1 w2) := hs2.wide fun b _ e => .inl e
  have c2 := HW2.out.hd.c2
  have HST : Hid (PeelL w1 wb mb p R S A t P k k root [] S A R 0 [] (fun _ => 0) w2) := ⟨Nat.le_refl _, by simp, Made.refl HW1.out.hd.rel t 0, fun _ => ⟨HR.out, Fits.refl P k⟩, HW2.out, HS2.out⟩
  have hk1 : ¬ ((k : Int) + 1 < 2) := by omega
  clear hlv hd2 hs2 HV
  go_wp2_with fail
  clear c2
  go_loopw [9, 2] (fun lv rt wx => ∃ (κ : Nat) (L : List Thing) (r : Int) (S' : ArS) (A' : Nat → Abs) (R' : ArR) (bad' : Int) (K : List Int) (m : Int → Int), lv = .int .i64 ((κ : Int) + 1) ∧ 1 ≤ κ ∧ rt = .int .i64 r ∧ PeelL w1 wb mb p R S A t P k κ r L S' A' R' bad' K m wx) (fun lv _ _ => (intOf lv).toNat)
  case atStart => exact ⟨k, [], root, S, A, R, 0, [], _, rfl, h1, rfl, HST.out⟩
  case round =>
    obtain ⟨κ, L, r, S', A', R', bad', K, m, rfl, hκ, rfl, hL⟩ := hrel
    have HLL := Lib.hid hL
    clear hL
    by_cases hκ1 : κ = 1
    · subst hκ1
      have HD := Lib.hid (fun id => done_any wr wb bad' HLL.out.wk.hd.c2 id)
      go_wp2_with fail
      (with_reducible refine (HD.out r).mono ?_)
      rintro e w3 ⟨rfl, hb3⟩
      have HF := Lib.hid (peel_end HLL.out (Nat.le_refl _) (fun _ => .inl rfl) HB1.out HL1.out HL2.out hb3)
      clear hb3 HD
      generalize (if bad' = 0 then r else 0) = rr at HF ⊢
      go_wp2_with fail
      go_returns
      exact HF.out
    · obtain ⟨n, rfl⟩ : ∃ n, κ = n + 1 := ⟨κ - 1, by omega⟩
      have hn1 : 1 ≤ n := by omega
      have HN1 := Lib.hid hn1
      have hgt : (2 : Int) < (n : Int) + 1 + 1 := by omega
      have HKD := Lib.hid (hkids_any wr wb WT [.map (some mb)] p R' S' A' t bad' HLL.out.wk.hd r (subT P (n + 1) (-2 ^ (n + 1)) (-2 ^ (n + 1)) 0) (subT P (n + 1) (-2 ^ (n + 1)) (-2 ^ (n + 1)) 1) (subT P (n + 1) (-2 ^ (n + 1)) (-2 ^ (n + 1)) 2) (subT P (n + 1) (-2 ^ (n + 1)) (-2 ^ (n + 1)) 3) (fun e => by rw [← subT_all]; exact (HLL.out.has e).1))
      rw [show ((n + 1 : Nat) : Int) = (n : Int) + 1 by omega]
      clear hκ1 hκ
      go_wp2_with fail
      (with_reducible refine HKD.out.mono ?_)
      rintro e w3 ⟨k0, k1, k2, k3, rfl, hkh, hkz, hd3, hs3⟩
      obtain ⟨Q, rfl, rfl, rfl, rfl⟩ := four_fn k0 k1 k2 k3
      have HW3 := Lib.hid (HLL.out.wk.hand hd3 hs3 (St.refl HLL.out.wk.hd.rel t))
      have HS3 : Hid (StepH (WX wb mb) p R R' w1 w3) := HLL.out.st.trans (hs3.wide fun b _ e => .inl e)
      have HQ : Hid (bad' = 0 → ∀ j, j < 4 → Has S' A' t (Q j) (.node (T2 P n j 0) (T2 P n j 1) (T2 P n j 2) (T2 P n j 3))) := fun e j hj => by
        obtain ⟨g0, g1, g2, g3⟩ := hkh e
        rw [← T2_kid]
        rcases four_cases hj with rfl | rfl | rfl | rfl <;> assumption
      have HPS := Lib.hid (peel_start (P := P) (n := n) (Q := Q) HW3.out)
      clear hkh hkz hd3 hs3 HKD
      go_wp2_with fail
      have HS5 : Hid (StepH (WX wb mb) p R R' w1 ((w3.alloc (.cells #[.int .i64 (Q 0), .int .i64 (Q 1), .int .i64 (Q 2), .int .i64 (Q 3)] 50)).alloc (.cells #[.int .i64 0, .int .i64 0, .int .i64 0, .int .i64 0] 50))) := (HS3.out.alloc _).alloc _
      have HPN : Hid (w1.heap.size ≤ w3.heap.size + 1) := Nat.le_succ_of_le HS3.out.mod.size
      have HPB := Lib.hid HPS.out.2
      have HPS := Lib.hid HPS.out.1
      generalize World.alloc (World.alloc w3 _) _ = w5 at HPS HPB HS5 ⊢
      generalize w3.heap.size + 1 = pb at HPS HPB HPN ⊢
      generalize w3.heap.size = qb at HPS HPB ⊢
      obtain ⟨wo, hwo⟩ : ∃ wo : World, wo = wr := ⟨_, rfl⟩
      have HWO := Lib.hid hwo
      clear hwo
      go_loopw [46, 12] (fun kv fv wx => ∃ (k : Nat) (V : Nat → Int) (K2 : List Int) (m2 : Int → Int), kv = .int .i64 k ∧ k ≤ 4 ∧ fv = .bool (fitB (UT P n bad') k) ∧ PeelI w5 wb mb qb pb p R' S' A' t bad' P n Q k V K2 m2 wx) (fun kv _ _ => 4 - (intOf kv).toNat)
      case atStart => exact ⟨0, _, _, _, rfl, Nat.zero_le _, rfl, HPS.out⟩
      case round =>
        obtain ⟨i, V, K2, m2, rfl, hk, rfl, hP⟩ := hrel
        have HP := Lib.hid hP
        clear hP
        by_cases hk4 : i < 4
        · have c0 := HP.out.q.cellS (QC_get Q hk4)
          have HKC := Lib.hid (fun W (hW : Hd W wb WT [.map (some mb)] p R' S' A' t bad') => hkids_any W wb WT [.map (some mb)] p R' S' A' t bad' hW (Q i) (T2 P n i 0) (T2 P n i 1) (T2 P n i 2) (T2 P n i 3) (fun e => HQ.out e i hk4))
          have HQL := Lib.hid HP.out.q.lt
          have HQL2 : Hid ((⟨qb, 0, none⟩ : Addr).block < (wr.alloc (.cells #[.int .i64 0, .int .i64 0, .int .i64 0, .int .i64 0] 50)).drew.heap.size) := (HP.out.q.alloc _).lt
          have HQN : Hid (¬ (Own p R' qb ∨ qb = wb)) := fun ho => by
            rcases ho with ho | ho
            · exact HPB.out.nq ho
            · exact HPB.out.q1 ho
          have HZN : Hid (¬ (Own p R' wr.heap.size ∨ wr.heap.size = wb)) := fun ho => by
            rcases ho with ho | ho
            · exact Nat.lt_irrefl _ (HP.out.wk.hd.arm.own_lt ho)
            · have := HP.out.wk.hd.blk.lt; omega
          have HNE : Hid (qb ≠ wr.heap.size) := Nat.ne_of_lt HP.out.q.lt
          have HFS := Lib.hid (fitB_succ (UT P n bad') i)
          have HK4 := Lib.hid hk4
          generalize hF : fitB (UT P n bad') i = F at HFS
          have HF := Lib.hid hF
          clear hk hF
          rcases four_cases hk4 with rfl | rfl | rfl | rfl
          all_goals clear hk4
          · go_wp2_with fail
            go_region_held3 (fun w' => w'.cell? ⟨qb, 0, none⟩ = some (.int .i64 (Q 0)))
              (first | (with_reducible exact c0) | (with_reducible exact e0) | (with_reducible exact keep_one HNE.out e0 _ _ _ _) | go_keep)
              (first
                | (go_at_call 44; refine (HKC.out _ (by exact HP.out.wk.hd.drew)).mono ?_; rintro e w6 ⟨i0, i1, i2, i3, rfl, hih, hiz, hd6, hs6⟩; obtain ⟨r, rfl, rfl, rfl, rfl⟩ := four_fn i0 i1 i2 i3; have HKI := Lib.hid (kin_a (r := r) hd6 hs6); have e0 := (hs6.mod.cell (a := ⟨qb, 0, none⟩) HQL.out HQN.out).trans c0)
                | (go_at_call 44; refine (HKC.out _ (by exact (HP.out.wk.hd.alloc _).drew)).mono ?_; rintro e w6 ⟨i0, i1, i2, i3, rfl, hih, hiz, hd6, hs6⟩; obtain ⟨r, rfl, rfl, rfl, rfl⟩ := four_fn i0 i1 i2 i3; have HKI := Lib.hid (kin_b (r := r) HP.out.wk.hd hd6 hs6); have e0 := (hs6.mod.cell (a := ⟨qb, 0, none⟩) HQL2.out HQN.out).trans ((World.cell?_alloc_lt wr (.cells #[.int .i64 0, .int .i64 0, .int .i64 0, .int .i64 0] 50) ⟨qb, 0, none⟩ HQL.out).trans c0); have HZ := Lib.hid ((Blk.new wr 50 #[.int .i64 0, .int .i64 0, .int .i64 0, .int .i64 0]).drew.mod hs6.mod HZN.out); have z0 := HZ.out.cellS (i := 0) rfl; have z1 := HZ.out.cellS (i := 1) rfl; have z2 := HZ.out.cellS (i := 2) rfl; have z3 := HZ.out.cellS (i := 3) rfl; have f0 := HZ.out.frozen 0; have f1 := HZ.out.frozen 1; have f2 := HZ.out.frozen 2; have f3 := HZ.out.frozen 3))
            all_goals clear c0 e0
            all_goals have HIH : Hid ((bad' = 0 → ∀ j, j < 4 → Has S' A' t (r j) (T2 P n 0 j)) ∧ (bad' ≠ 0 → ∀ j, j < 4 → r j = 0)) := ⟨fun e j hj => (by obtain ⟨g0, g1, g2, g3⟩ := hih e; rcases four_cases hj with rfl | rfl | rfl | rfl <;> assumption), fun e j hj => (by obtain ⟨g0, g1, g2, g3⟩ := hiz e; rcases four_cases hj with rfl | rfl | rfl | rfl <;> assumption)⟩
            all_goals clear hih hiz hd6 hs6
            all_goals (first
              | (clear z0 z1 z2 z3 f0 f1 f2 f3 HZ
                 generalize World.setCell _ _ _ = w7 at HKI ⊢
                 generalize wr.heap.size = rb at HKI ⊢)
              | (generalize World.alloc w6 _ = w7 at HKI ⊢
                 generalize w6.heap.size = rb at HKI ⊢))
            all_goals (
              have HP7 := Lib.hid (HP.out.kids HPB.out HKI.out)
              have HRB := Lib.hid (peel_rb HP.out HKI.out.lo)
              have r3 := HKI.out.r.cellS (QC_get r (k := 3) (by decide))
              have v0 := HP7.out.v.cellS (QC_get V (k := 0) (by decide))
              have g0 := HP7.out.v.frozen 0
              have HP8 := Lib.hid (HP7.out.set HPB.out (k := 0) (by decide) (x := r 3) (fun e => HIH.out.1 e 3 (by decide)))
              have HR8 : Hid (Blk (w7.setCell ⟨pb, 0, none⟩ (.int .i64 (r 3))) rb 50 (QC r)) := HKI.out.r.far (p := ⟨pb, 0, none⟩) HRB.out.1 _
              clear HKI HP7
              go_wp2_with fail
              clear r3 v0 g0
              generalize World.setCell _ _ _ = w8 at HP8 HR8 ⊢
              go_loopw [62, 12] (fun jv fv wx => ∃ (j : Nat) (K3 : List Int) (m3 : Int → Int), jv = .int .i64 j ∧ j ≤ 4 ∧ fv = .bool (F && outerB (UT P n bad') 0 j) ∧ PeelI w5 wb mb qb pb p R' S' A' t bad' P n Q (0 + 1) (upd V 0 (r 3)) K3 m3 wx ∧ Blk wx rb 50 (QC r)) (fun jv _ _ => 4 - (intOf jv).toNat)
              case atStart => exact ⟨0, _, _, rfl, Nat.zero_le _, by simp [outerB], HP8.out, HR8.out⟩
              case round =>
                obtain ⟨j, K3, m3, rfl, hj, rfl, hPj, hRj⟩ := hrel
                have HPJ := Lib.hid hPj
                have HRJ := Lib.hid hRj
                clear hPj hRj
                by_cases hj4 : j < 4
                · have r0 := HRJ.out.cellS (QC_get r hj4)
                  have HOS := Lib.hid (outerB_succ (UT P n bad') 0 j)
                  have HJ4 := Lib.hid hj4
                  have hlt : (j : Int) < 4 := by omega
                  have hwi := wrap_nat' j (by unfold maxLen; omega)
                  have HE := Lib.hid (wempty_gen (U := UT P n bad' 0 j) HPJ.out.wk (fun e => by unfold UT; rw [if_pos e]; exact HIH.out.1 e j hj4) (fun e => ⟨HIH.out.2 e j hj4, by unfold UT; rw [if_neg e]⟩))
                  generalize hG : (F && outerB (UT P n bad') 0 j) = G
                  have HG := Lib.hid hG
                  clear hj4 hj hG
                  cases G
                  · have HN : Hid ((F && outerB (UT P n bad') 0 (j + 1)) = false) := by show (F && outerB (UT P n bad') 0 (j + 1)) = false; rw [HOS.out, ← Bool.and_assoc, HG.out]; rfl
                    clear HE
                    go_wp2_with fail
                    go_roundw
                    case rel => exact ⟨j + 1, K3, m3, by go_num, HJ4.out, by rw [HN.out], HPJ.out, HRJ.out⟩
                    case measure => simp [intOf]; have := HJ4.out; omega
                  · by_cases hjk : j = 3
                    · have HN : Hid ((F && outerB (UT P n bad') 0 (j + 1)) = true) := by show (F && outerB (UT P n bad') 0 (j + 1)) = true; rw [HOS.out, ← Bool.and_assoc, HG.out]; simp [hjk]
                      have hbb : ((j : Int) == 3) = true := by rw [beq_iff_eq]; omega
                      clear HE hjk
                      go_wp2_with fail
                      go_roundw
                      case rel => exact ⟨j + 1, K3, m3, by go_num, HJ4.out, by rw [HN.out], HPJ.out, HRJ.out⟩
                      case measure => simp [intOf]; have := HJ4.out; omega
                    · have HN : Hid ((F && outerB (UT P n bad') 0 (j + 1)) = blankT (UT P n bad' 0 j)) := by show (F && outerB (UT P n bad') 0 (j + 1)) = _; rw [HOS.out, ← Bool.and_assoc, HG.out]; simp [hjk]
                      have hbb : ((j : Int) == 3) = false := by rw [beq_eq_false_iff_ne]; omega
                      clear hjk
                      go_wp2_with fail
                      (with_reducible refine HE.out.mono ?_)
                      rintro e w9 ⟨K4, m4, rfl, hw9, hs9⟩
                      have HP9 := Lib.hid (HPJ.out.walk HPB.out hw9 hs9)
                      have HR9 : Hid (Blk w9 rb 50 (QC r)) := HRJ.out.mod hs9.mod (fun ho => by
                        rcases ho with ho | ho | ho
                        · exact HRB.out.2.2.2 ho
                        · exact HRB.out.2.1 ho
                        · exact HRB.out.2.2.1 ho)
                      clear hw9 hs9 HE r0
                      generalize blankT (UT P n bad' 0 j) = B at HN ⊢
                      go_wp2_with fail
                      go_roundw
                      case rel => exact ⟨j + 1, K4, m4, by go_num, HJ4.out, by rw [HN.out], HP9.out, HR9.out⟩
                      case measure => simp [intOf]; have := HJ4.out; omega
                · have hj5 : j = 4 := by omega
                  subst hj5
                  rw [← HFS.out]
                  clear hj4 hj
                  go_wp2_with fail
                  go_roundw
                  case rel => exact ⟨0 + 1, _, K3, m3, by go_num, by decide, rfl, HPJ.out⟩
                  case measure => simp [intOf])
          · go_wp2_with fail
            go_region_held3 (fun w' => w'.cell? ⟨qb, 1, none⟩ = some (.int .i64 (Q 1)))
              (first | (with_reducible exact c0) | (with_reducible exact e0) | (with_reducible exact keep_one HNE.out e0 _ _ _ _) | go_keep)
              (first
                | (go_at_call 44; refine (HKC.out _ (by exact HP.out.wk.hd.drew)).mono ?_; rintro e w6 ⟨i0, i1, i2, i3, rfl, hih, hiz, hd6, hs6⟩; obtain ⟨r, rfl, rfl, rfl, rfl⟩ := four_fn i0 i1 i2 i3; have HKI := Lib.hid (kin_a (r := r) hd6 hs6); have e0 := (hs6.mod.cell (a := ⟨qb, 1, none⟩) HQL.out HQN.out).trans c0)
                | (go_at_call 44; refine (HKC.out _ (by exact (HP.out.wk.hd.alloc _).drew)).mono ?_; rintro e w6 ⟨i0, i1, i2, i3, rfl, hih, hiz, hd6, hs6⟩; obtain ⟨r, rfl, rfl, rfl, rfl⟩ := four_fn i0 i1 i2 i3; have HKI := Lib.hid (kin_b (r := r) HP.out.wk.hd hd6 hs6); have e0 := (hs6.mod.cell (a := ⟨qb, 1, none⟩) HQL2.out HQN.out).trans ((World.cell?_alloc_lt wr (.cells #[.int .i64 0, .int .i64 0, .int .i64 0, .int .i64 0] 50) ⟨qb, 1, none⟩ HQL.out).trans c0); have HZ := Lib.hid ((Blk.new wr 50 #[.int .i64 0, .int .i64 0, .int .i64 0, .int .i64 0]).drew.mod hs6.mod HZN.out); have z0 := HZ.out.cellS (i := 0) rfl; have z1 := HZ.out.cellS (i := 1) rfl; have z2 := HZ.out.cellS (i := 2) rfl; have z3 := HZ.out.cellS (i := 3) rfl; have f0 := HZ.out.frozen 0; have f1 := HZ.out.frozen 1; have f2 := HZ.out.frozen 2; have f3 := HZ.out.frozen 3))
            all_goals clear c0 e0
            all_goals have HIH : Hid ((bad' = 0 → ∀ j, j < 4 → Has S' A' t (r j) (T2 P n 1 j)) ∧ (bad' ≠ 0 → ∀ j, j < 4 → r j = 0)) := ⟨fun e j hj => (by obtain ⟨g0, g1, g2, g3⟩ := hih e; rcases four_cases hj with rfl | rfl | rfl | rfl <;> assumption), fun e j hj => (by obtain ⟨g0, g1, g2, g3⟩ := hiz e; rcases four_cases hj with rfl | rfl | rfl | rfl <;> assumption)⟩
            all_goals clear hih hiz hd6 hs6
            all_goals (first
              | (clear z0 z1 z2 z3 f0 f1 f2 f3 HZ
                 generalize World.setCell _ _ _ = w7 at HKI ⊢
                 generalize wr.heap.size = rb at HKI ⊢)
              | (generalize World.alloc w6 _ = w7 at HKI ⊢
                 generalize w6.heap.size = rb at HKI ⊢))
            all_goals (
              have HP7 := Lib.hid (HP.out.kids HPB.out HKI.out)
              have HRB := Lib.hid (peel_rb HP.out HKI.out.lo)
              have r3 := HKI.out.r.cellS (QC_get r (k := 2) (by decide))
              have v0 := HP7.out.v.cellS (QC_get V (k := 1) (by decide))
              have g0 := HP7.out.v.frozen 1
              have HP8 := Lib.hid (HP7.out.set HPB.out (k := 1) (by decide) (x := r 2) (fun e => HIH.out.1 e 2 (by decide)))
              have HR8 : Hid (Blk (w7.setCell ⟨pb, 1, none⟩ (.int .i64 (r 2))) rb 50 (QC r)) := HKI.out.r.far (p := ⟨pb, 1, none⟩) HRB.out.1 _
              clear HKI HP7
              go_wp2_with fail
              clear r3 v0 g0
              generalize World.setCell _ _ _ = w8 at HP8 HR8 ⊢
              go_loopw [62, 12] (fun jv fv wx => ∃ (j : Nat) (K3 : List Int) (m3 : Int → Int), jv = .int .i64 j ∧ j ≤ 4 ∧ fv = .bool (F && outerB (UT P n bad') 1 j) ∧ PeelI w5 wb mb qb pb p R' S' A' t bad' P n Q (1 + 1) (upd V 1 (r 2)) K3 m3 wx ∧ Blk wx rb 50 (QC r)) (fun jv _ _ => 4 - (intOf jv).toNat)
              case atStart => exact ⟨0, _, _, rfl, Nat.zero_le _, by simp [outerB], HP8.out, HR8.out⟩
              case round =>
                obtain ⟨j, K3, m3, rfl, hj, rfl, hPj, hRj⟩ := hrel
                have HPJ := Lib.hid hPj
                have HRJ := Lib.hid hRj
                clear hPj hRj
                by_cases hj4 : j < 4
                · have r0 := HRJ.out.cellS (QC_get r hj4)
                  have HOS := Lib.hid (outerB_succ (UT P n bad') 1 j)
                  have HJ4 := Lib.hid hj4
                  have hlt : (j : Int) < 4 := by omega
                  have hwi := wrap_nat' j (by unfold maxLen; omega)
                  have HE := Lib.hid (wempty_gen (U := UT P n bad' 1 j) HPJ.out.wk (fun e => by unfold UT; rw [if_pos e]; exact HIH.out.1 e j hj4) (fun e => ⟨HIH.out.2 e j hj4, by unfold UT; rw [if_neg e]⟩))
                  generalize hG : (F && outerB (UT P n bad') 1 j) = G
                  have HG := Lib.hid hG
                  clear hj4 hj hG
                  cases G
                  · have HN : Hid ((F && outerB (UT P n bad') 1 (j + 1)) = false) := by show (F && outerB (UT P n bad') 1 (j + 1)) = false; rw [HOS.out, ← Bool.and_assoc, HG.out]; rfl
                    clear HE
                    go_wp2_with fail
                    go_roundw
                    case rel => exact ⟨j + 1, K3, m3, by go_num, HJ4.out, by rw [HN.out], HPJ.out, HRJ.out⟩
                    case measure => simp [intOf]; have := HJ4.out; omega
                  · by_cases hjk : j = 2
                    · have HN : Hid ((F && outerB (UT P n bad') 1 (j + 1)) = true) := by show (F && outerB (UT P n bad') 1 (j + 1)) = true; rw [HOS.out, ← Bool.and_assoc, HG.out]; simp [hjk]
                      have hbb : ((j : Int) == 2) = true := by rw [beq_iff_eq]; omega
                      clear HE hjk
                      go_wp2_with fail
                      go_roundw
                      case rel => exact ⟨j + 1, K3, m3, by go_num, HJ4.out, by rw [HN.out], HPJ.out, HRJ.out⟩
                      case measure => simp [intOf]; have := HJ4.out; omega
                    · have HN : Hid ((F && outerB (UT P n bad') 1 (j + 1)) = blankT (UT P n bad' 1 j)) := by show (F && outerB (UT P n bad') 1 (j + 1)) = _; rw [HOS.out, ← Bool.and_assoc, HG.out]; simp [hjk]
                      have hbb : ((j : Int) == 2) = false := by rw [beq_eq_false_iff_ne]; omega
                      clear hjk
                      go_wp2_with fail
                      (with_reducible refine HE.out.mono ?_)
                      rintro e w9 ⟨K4, m4, rfl, hw9, hs9⟩
                      have HP9 := Lib.hid (HPJ.out.walk HPB.out hw9 hs9)
                      have HR9 : Hid (Blk w9 rb 50 (QC r)) := HRJ.out.mod hs9.mod (fun ho => by
                        rcases ho with ho | ho | ho
                        · exact HRB.out.2.2.2 ho
                        · exact HRB.out.2.1 ho
                        · exact HRB.out.2.2.1 ho)
                      clear hw9 hs9 HE r0
                      generalize blankT (UT P n bad' 1 j) = B at HN ⊢
                      go_wp2_with fail
                      go_roundw
                      case rel => exact ⟨j + 1, K4, m4, by go_num, HJ4.out, by rw [HN.out], HP9.out, HR9.out⟩
                      case measure => simp [intOf]; have := HJ4.out; omega
                · have hj5 : j = 4 := by omega
                  subst hj5
                  rw [← HFS.out]
                  clear hj4 hj
                  go_wp2_with fail
                  go_roundw
                  case rel => exact ⟨1 + 1, _, K3, m3, by go_num, by decide, rfl, HPJ.out⟩
                  case measure => simp [intOf])
          · go_wp2_with fail
            go_region_held3 (fun w' => w'.cell? ⟨qb, 2, none⟩ = some (.int .i64 (Q 2)))
              (first | (with_reducible exact c0) | (with_reducible exact e0) | (with_reducible exact keep_one HNE.out e0 _ _ _ _) | go_keep)
              (first
                | (go_at_call 44; refine (HKC.out _ (by exact HP.out.wk.hd.drew)).mono ?_; rintro e w6 ⟨i0, i1, i2, i3, rfl, hih, hiz, hd6, hs6⟩; obtain ⟨r, rfl, rfl, rfl, rfl⟩ := four_fn i0 i1 i2 i3; have HKI := Lib.hid (kin_a (r := r) hd6 hs6); have e0 := (hs6.mod.cell (a := ⟨qb, 2, none⟩) HQL.out HQN.out).trans c0)
                | (go_at_call 44; refine (HKC.out _ (by exact (HP.out.wk.hd.alloc _).drew)).mono ?_; rintro e w6 ⟨i0, i1, i2, i3, rfl, hih, hiz, hd6, hs6⟩; obtain ⟨r, rfl, rfl, rfl, rfl⟩ := four_fn i0 i1 i2 i3; have HKI := Lib.hid (kin_b (r := r) HP.out.wk.hd hd6 hs6); have e0 := (hs6.mod.cell (a := ⟨qb, 2, none⟩) HQL2.out HQN.out).trans ((World.cell?_alloc_lt wr (.cells #[.int .i64 0, .int .i64 0, .int .i64 0, .int .i64 0] 50) ⟨qb, 2, none⟩ HQL.out).trans c0); have HZ := Lib.hid ((Blk.new wr 50 #[.int .i64 0, .int .i64 0, .int .i64 0, .int .i64 0]).drew.mod hs6.mod HZN.out); have z0 := HZ.out.cellS (i := 0) rfl; have z1 := HZ.out.cellS (i := 1) rfl; have z2 := HZ.out.cellS (i := 2) rfl; have z3 := HZ.out.cellS (i := 3) rfl; have f0 := HZ.out.frozen 0; have f1 := HZ.out.frozen 1; have f2 := HZ.out.frozen 2; have f3 := HZ.out.frozen 3))
            all_goals clear c0 e0
            all_goals have HIH : Hid ((bad' = 0 → ∀ j, j < 4 → Has S' A' t (r j) (T2 P n 2 j)) ∧ (bad' ≠ 0 → ∀ j, j < 4 → r j = 0)) := ⟨fun e j hj => (by obtain ⟨g0, g1, g2, g3⟩ := hih e; rcases four_cases hj with rfl | rfl | rfl | rfl <;> assumption), fun e j hj => (by obtain ⟨g0, g1, g2, g3⟩ := hiz e; rcases four_cases hj with rfl | rfl | rfl | rfl <;> assumption)⟩
            all_goals clear hih hiz hd6 hs6
            all_goals (first
              | (clear z0 z1 z2 z3 f0 f1 f2 f3 HZ
                 generalize World.setCell _ _ _ = w7 at HKI ⊢
                 generalize wr.heap.size = rb at HKI ⊢)
              | (generalize World.alloc w6 _ = w7 at HKI ⊢
                 generalize w6.heap.size = rb at HKI ⊢))
            all_goals (
              have HP7 := Lib.hid (HP.out.kids HPB.out HKI.out)
              have HRB := Lib.hid (peel_rb HP.out HKI.out.lo)
              have r3 := HKI.out.r.cellS (QC_get r (k := 1) (by decide))
              have v0 := HP7.out.v.cellS (QC_get V (k := 2) (by decide))
              have g0 := HP7.out.v.frozen 2
              have HP8 := Lib.hid (HP7.out.set HPB.out (k := 2) (by decide) (x := r 1) (fun e => HIH.out.1 e 1 (by decide)))
              have HR8 : Hid (Blk (w7.setCell ⟨pb, 2, none⟩ (.int .i64 (r 1))) rb 50 (QC r)) := HKI.out.r.far (p := ⟨pb, 2, none⟩) HRB.out.1 _
              clear HKI HP7
              go_wp2_with fail
              clear r3 v0 g0
              generalize World.setCell _ _ _ = w8 at HP8 HR8 ⊢
              go_loopw [62, 12] (fun jv fv wx => ∃ (j : Nat) (K3 : List Int) (m3 : Int → Int), jv = .int .i64 j ∧ j ≤ 4 ∧ fv = .bool (F && outerB (UT P n bad') 2 j) ∧ PeelI w5 wb mb qb pb p R' S' A' t bad' P n Q (2 + 1) (upd V 2 (r 1)) K3 m3 wx ∧ Blk wx rb 50 (QC r)) (fun jv _ _ => 4 - (intOf jv).toNat)
              case atStart => exact ⟨0, _, _, rfl, Nat.zero_le _, by simp [outerB], HP8.out, HR8.out⟩
              case round =>
                obtain ⟨j, K3, m3, rfl, hj, rfl, hPj, hRj⟩ := hrel
                have HPJ := Lib.hid hPj
                have HRJ := Lib.hid hRj
                clear hPj hRj
                by_cases hj4 : j < 4
                · have r0 := HRJ.out.cellS (QC_get r hj4)
                  have HOS := Lib.hid (outerB_succ (UT P n bad') 2 j)
                  have HJ4 := Lib.hid hj4
                  have hlt : (j : Int) < 4 := by omega
                  have hwi := wrap_nat' j (by unfold maxLen; omega)
                  have HE := Lib.hid (wempty_gen (U := UT P n bad' 2 j) HPJ.out.wk (fun e => by unfold UT; rw [if_pos e]; exact HIH.out.1 e j hj4) (fun e => ⟨HIH.out.2 e j hj4, by unfold UT; rw [if_neg e]⟩))
                  generalize hG : (F && outerB (UT P n bad') 2 j) = G
                  have HG := Lib.hid hG
                  clear hj4 hj hG
                  cases G
                  · have HN : Hid ((F && outerB (UT P n bad') 2 (j + 1)) = false) := by show (F && outerB (UT P n bad') 2 (j + 1)) = false; rw [HOS.out, ← Bool.and_assoc, HG.out]; rfl
                    clear HE
                    go_wp2_with fail
                    go_roundw
                    case rel => exact ⟨j + 1, K3, m3, by go_num, HJ4.out, by rw [HN.out], HPJ.out, HRJ.out⟩
                    case measure => simp [intOf]; have := HJ4.out; omega
                  · by_cases hjk : j = 1
                    · have HN : Hid ((F && outerB (UT P n bad') 2 (j + 1)) = true) := by show (F && outerB (UT P n bad') 2 (j + 1)) = true; rw [HOS.out, ← Bool.and_assoc, HG.out]; simp [hjk]
                      have hbb : ((j : Int) == 1) = true := by rw [beq_iff_eq]; omega
                      clear HE hjk
                      go_wp2_with fail
                      go_roundw
                      case rel => exact ⟨j + 1, K3, m3, by go_num, HJ4.out, by rw [HN.out], HPJ.out, HRJ.out⟩
                      case measure => simp [intOf]; have := HJ4.out; omega
                    · have HN : Hid ((F && outerB (UT P n bad') 2 (j + 1)) = blankT (UT P n bad' 2 j)) := by show (F && outerB (UT P n bad') 2 (j + 1)) = _; rw [HOS.out, ← Bool.and_assoc, HG.out]; simp [hjk]
                      have hbb : ((j : Int) == 1) = false := by rw [beq_eq_false_iff_ne]; omega
                      clear hjk
                      go_wp2_with fail
                      (with_reducible refine HE.out.mono ?_)
                      rintro e w9 ⟨K4, m4, rfl, hw9, hs9⟩
                      have HP9 := Lib.hid (HPJ.out.walk HPB.out hw9 hs9)
                      have HR9 : Hid (Blk w9 rb 50 (QC r)) := HRJ.out.mod hs9.mod (fun ho => by
                        rcases ho with ho | ho | ho
                        · exact HRB.out.2.2.2 ho
                        · exact HRB.out.2.1 ho
                        · exact HRB.out.2.2.1 ho)
                      clear hw9 hs9 HE r0
                      generalize blankT (UT P n bad' 2 j) = B at HN ⊢
                      go_wp2_with fail
                      go_roundw
                      case rel => exact ⟨j + 1, K4, m4, by go_num, HJ4.out, by rw [HN.out], HP9.out, HR9.out⟩
                      case measure => simp [intOf]; have := HJ4.out; omega
                · have hj5 : j = 4 := by omega
                  subst hj5
                  rw [← HFS.out]
                  clear hj4 hj
                  go_wp2_with fail
                  go_roundw
                  case rel => exact ⟨2 + 1, _, K3, m3, by go_num, by decide, rfl, HPJ.out⟩
                  case measure => simp [intOf])
          · go_wp2_with fail
            go_region_held3 (fun w' => w'.cell? ⟨qb, 3, none⟩ = some (.int .i64 (Q 3)))
              (first | (with_reducible exact c0) | (with_reducible exact e0) | (with_reducible exact keep_one HNE.out e0 _ _ _ _) | go_keep)
              (first
                | (go_at_call 44; refine (HKC.out _ (by exact HP.out.wk.hd.drew)).mono ?_; rintro e w6 ⟨i0, i1, i2, i3, rfl, hih, hiz, hd6, hs6⟩; obtain ⟨r, rfl, rfl, rfl, rfl⟩ := four_fn i0 i1 i2 i3; have HKI := Lib.hid (kin_a (r := r) hd6 hs6); have e0 := (hs6.mod.cell (a := ⟨qb, 3, none⟩) HQL.out HQN.out).trans c0)
                | (go_at_call 44; refine (HKC.out _ (by exact (HP.out.wk.hd.alloc _).drew)).mono ?_; rintro e w6 ⟨i0, i1, i2, i3, rfl, hih, hiz, hd6, hs6⟩; obtain ⟨r, rfl, rfl, rfl, rfl⟩ := four_fn i0 i1 i2 i3; have HKI := Lib.hid (kin_b (r := r) HP.out.wk.hd hd6 hs6); have e0 := (hs6.mod.cell (a := ⟨qb, 3, none⟩) HQL2.out HQN.out).trans ((World.cell?_alloc_lt wr (.cells #[.int .i64 0, .int .i64 0, .int .i64 0, .int .i64 0] 50) ⟨qb, 3, none⟩ HQL.out).trans c0); have HZ := Lib.hid ((Blk.new wr 50 #[.int .i64 0, .int .i64 0, .int .i64 0, .int .i64 0]).drew.mod hs6.mod HZN.out); have z0 := HZ.out.cellS (i := 0) rfl; have z1 := HZ.out.cellS (i := 1) rfl; have z2 := HZ.out.cellS (i := 2) rfl; have z3 := HZ.out.cellS (i := 3) rfl; have f0 := HZ.out.frozen 0; have f1 := HZ.out.frozen 1; have f2 := HZ.out.frozen 2; have f3 := HZ.out.frozen 3))
            all_goals clear c0 e0
            all_goals have HIH : Hid ((bad' = 0 → ∀ j, j < 4 → Has S' A' t (r j) (T2 P n 3 j)) ∧ (bad' ≠ 0 → ∀ j, j < 4 → r j = 0)) := ⟨fun e j hj => (by obtain ⟨g0, g1, g2, g3⟩ := hih e; rcases four_cases hj with rfl | rfl | rfl | rfl <;> assumption), fun e j hj => (by obtain ⟨g0, g1, g2, g3⟩ := hiz e; rcases four_cases hj with rfl | rfl | rfl | rfl <;> assumption)⟩
            all_goals clear hih hiz hd6 hs6
            all_goals (first
              | (clear z0 z1 z2 z3 f0 f1 f2 f3 HZ
                 generalize World.setCell _ _ _ = w7 at HKI ⊢
                 generalize wr.heap.size = rb at HKI ⊢)
              | (generalize World.alloc w6 _ = w7 at HKI ⊢
                 generalize w6.heap.size = rb at HKI ⊢))
            all_goals (
              have HP7 := Lib.hid (HP.out.kids HPB.out HKI.out)
              have HRB := Lib.hid (peel_rb HP.out HKI.out.lo)
              have r3 := HKI.out.r.cellS (QC_get r (k := 0) (by decide))
              have v0 := HP7.out.v.cellS (QC_get V (k := 3) (by decide))
              have g0 := HP7.out.v.frozen 3
              have HP8 := Lib.hid (HP7.out.set HPB.out (k := 3) (by decide) (x := r 0) (fun e => HIH.out.1 e 0 (by decide)))
              have HR8 : Hid (Blk (w7.setCell ⟨pb, 3, none⟩ (.int .i64 (r 0))) rb 50 (QC r)) := HKI.out.r.far (p := ⟨pb, 3, none⟩) HRB.out.1 _
              clear HKI HP7
              go_wp2_with fail
              clear r3 v0 g0
              generalize World.setCell _ _ _ = w8 at HP8 HR8 ⊢
              go_loopw [62, 12] (fun jv fv wx => ∃ (j : Nat) (K3 : List Int) (m3 : Int → Int), jv = .int .i64 j ∧ j ≤ 4 ∧ fv = .bool (F && outerB (UT P n bad') 3 j) ∧ PeelI w5 wb mb qb pb p R' S' A' t bad' P n Q (3 + 1) (upd V 3 (r 0)) K3 m3 wx ∧ Blk wx rb 50 (QC r)) (fun jv _ _ => 4 - (intOf jv).toNat)
              case atStart => exact ⟨0, _, _, rfl, Nat.zero_le _, by simp [outerB], HP8.out, HR8.out⟩
              case round =>
                obtain ⟨j, K3, m3, rfl, hj, rfl, hPj, hRj⟩ := hrel
                have HPJ := Lib.hid hPj
                have HRJ := Lib.hid hRj
                clear hPj hRj
                by_cases hj4 : j < 4
                · have r0 := HRJ.out.cellS (QC_get r hj4)
                  have HOS := Lib.hid (outerB_succ (UT P n bad') 3 j)
                  have HJ4 := Lib.hid hj4
                  have hlt : (j : Int) < 4 := by omega
                  have hwi := wrap_nat' j (by unfold maxLen; omega)
                  have HE := Lib.hid (wempty_gen (U := UT P n bad' 3 j) HPJ.out.wk (fun e => by unfold UT; rw [if_pos e]; exact HIH.out.1 e j hj4) (fun e => ⟨HIH.out.2 e j hj4, by unfold UT; rw [if_neg e]⟩))
                  generalize hG : (F && outerB (UT P n bad') 3 j) = G
                  have HG := Lib.hid hG
                  clear hj4 hj hG
                  cases G
                  · have HN : Hid ((F && outerB (UT P n bad') 3 (j + 1)) = false) := by show (F && outerB (UT P n bad') 3 (j + 1)) = false; rw [HOS.out, ← Bool.and_assoc, HG.out]; rfl
                    clear HE
                    go_wp2_with fail
                    go_roundw
                    case rel => exact ⟨j + 1, K3, m3, by go_num, HJ4.out, by rw [HN.out], HPJ.out, HRJ.out⟩
                    case measure => simp [intOf]; have := HJ4.out; omega
                  · by_cases hjk : j = 0
                    · have HN : Hid ((F && outerB (UT P n bad') 3 (j + 1)) = true) := by show (F && outerB (UT P n bad') 3 (j + 1)) = true; rw [HOS.out, ← Bool.and_assoc, HG.out]; simp [hjk]
                      have hbb : ((j : Int) == 0) = true := by rw [beq_iff_eq]; omega
                      clear HE hjk
                      go_wp2_with fail
                      go_roundw
                      case rel => exact ⟨j + 1, K3, m3, by go_num, HJ4.out, by rw [HN.out], HPJ.out, HRJ.out⟩
                      case measure => simp [intOf]; have := HJ4.out; omega
                    · have HN : Hid ((F && outerB (UT P n bad') 3 (j + 1)) = blankT (UT P n bad' 3 j)) := by show (F && outerB (UT P n bad') 3 (j + 1)) = _; rw [HOS.out, ← Bool.and_assoc, HG.out]; simp [hjk]
                      have hbb : ((j : Int) == 0) = false := by rw [beq_eq_false_iff_ne]; omega
                      clear hjk
                      go_wp2_with fail
                      (with_reducible refine HE.out.mono ?_)
                      rintro e w9 ⟨K4, m4, rfl, hw9, hs9⟩
                      have HP9 := Lib.hid (HPJ.out.walk HPB.out hw9 hs9)
                      have HR9 : Hid (Blk w9 rb 50 (QC r)) := HRJ.out.mod hs9.mod (fun ho => by
                        rcases ho with ho | ho | ho
                        · exact HRB.out.2.2.2 ho
                        · exact HRB.out.2.1 ho
                        · exact HRB.out.2.2.1 ho)
                      clear hw9 hs9 HE r0
                      generalize blankT (UT P n bad' 3 j) = B at HN ⊢
                      go_wp2_with fail
                      go_roundw
                      case rel => exact ⟨j + 1, K4, m4, by go_num, HJ4.out, by rw [HN.out], HP9.out, HR9.out⟩
                      case measure => simp [intOf]; have := HJ4.out; omega
                · have hj5 : j = 4 := by omega
                  subst hj5
                  rw [← HFS.out]
                  clear hj4 hj
                  go_wp2_with fail
                  go_roundw
                  case rel => exact ⟨3 + 1, _, K3, m3, by go_num, by decide, rfl, HPJ.out⟩
                  case measure => simp [intOf])
        · have hk5 : i = 4 := by omega
          subst hk5
          have HPL : Hid (PeelL w1 wb mb p R S A t P k (n + 1) r L S' A' R' bad' K2 m2 wr) := ⟨HLL.out.le, HLL.out.len, HLL.out.made, HLL.out.has, HP.out.wk, ((HS5.out.wide fun b _ e => .inl e).trans HP.out.st).wide fun b hb e => by
            rcases e with e | e
            · exact e
            · have := HPN.out; omega⟩
          have HD := Lib.hid (fun id => done_any wr wb bad' HP.out.wk.hd.c2 id)
          have c2 := HP.out.wk.hd.c2
          clear hk hk4
          generalize hF : fitB (UT P n bad') 4 = F
          have HFF := Lib.hid hF
          clear hF
          cases F
          · have HNF : Hid (bad' = 0 → n + 1 = 1 ∨ ¬ Fits P (n + 1) (n + 1 - 1)) := fun e => .inr fun q => by
              have := (UT_fits HFF.out e).2 q; cases this
            go_wp2_with fail
            (with_reducible refine (HD.out r).mono ?_)
            rintro e w6 ⟨rfl, hb6⟩
            have HF2 := Lib.hid (peel_end HPL.out (Nat.succ_le_succ (Nat.zero_le n)) HNF.out HB1.out HL1.out HL2.out hb6)
            clear hb6 HD
            generalize (if bad' = 0 then r else 0) = rr at HF2 ⊢
            go_wp2_with fail
            go_returns
            exact HF2.out
          · by_cases hb0 : bad' = 0
            · subst hb0
              have HFT := Lib.hid ((UT_fits HFF.out rfl).1 rfl)
              have HNI := Lib.hid (HP.out.has rfl)
              have v0 := HP.out.v.cellS (QC_get V (k := 0) (by decide))
              have v1 := HP.out.v.cellS (QC_get V (k := 1) (by decide))
              have v2 := HP.out.v.cellS (QC_get V (k := 2) (by decide))
              have v3 := HP.out.v.cellS (QC_get V (k := 3) (by decide))
              have hj := hjoin_any wr.drew wb WT [.map (some mb)] p R' S' A' t 0 HP.out.wk.hd.drew (V 0) (V 1) (V 2) (V 3) _ _ _ _ n (fun _ => ⟨HNI.out 0 (by decide), HNI.out 1 (by decide), HNI.out 2 (by decide), HNI.out 3 (by decide)⟩) ⟨T2_lvl P n 0 3, T2_lvl P n 1 2, T2_lvl P n 2 1, T2_lvl P n 3 0⟩ (by have := HLL.out.le; have := HK43.out; omega)
              have HJ := Lib.hid hj
              have HPX : Hid (¬ (Own p R' pb ∨ pb = wb)) := fun ho => by
                rcases ho with ho | ho
                · exact HPB.out.np ho
                · exact HPB.out.p1 ho
              clear hj HD
              go_wp2_with fail
              go_region_held3 (fun w' => w'.cell? ⟨pb, 0, none⟩ = some (.int .i64 (V 0)) ∧ w'.cell? ⟨pb, 1, none⟩ = some (.int .i64 (V 1)) ∧ w'.cell? ⟨pb, 2, none⟩ = some (.int .i64 (V 2)) ∧ w'.cell? ⟨pb, 3, none⟩ = some (.int .i64 (V 3)))
                (first | (with_reducible exact ⟨v0, v1, v2, v3⟩) | (with_reducible exact ⟨e0, e1, e2, e3⟩) | go_keep)
                ((go_at_call 43; refine HJ.out.mono ?_; rintro e w6 ⟨x, S2, A2, R2, bad2, rfl, hm, hh, hd, hst⟩; have hbp := fun j => hst.mod.cell (a := ⟨pb, j, none⟩) HP.out.v.lt HPX.out; have e0 := (hbp 0).trans v0; have e1 := (hbp 1).trans v1; have e2 := (hbp 2).trans v2; have e3 := (hbp 3).trans v3; clear hbp))
              have HNX : Hid (PeelL w1 wb mb p R S A t P k n x (L ++ [.sq (T2 P n 0 3) (T2 P n 1 2) (T2 P n 2 1) (T2 P n 3 0)]) S2 A2 R2 bad2 K2 m2 w6) := peel_next HPL.out HNI.out HFT.out hm hh hd hst
              clear v0 v1 v2 v3 e0 e1 e2 e3 hm hh hd hst HJ c2
              have hnb : (n : Int) ≤ 43 := by have := HLL.out.le; have := HK43.out; omega
              go_wp2_with fail
              go_roundw
              case rel => exact ⟨n, _, x, S2, A2, R2, bad2, K2, m2, rfl, HN1.out, rfl, HNX.out⟩
              case measure => simp [intOf]; omega
            · have hbb : (bad' == 0) = false := beq_eq_false_iff_ne.2 hb0
              have HNF : Hid (bad' = 0 → n + 1 = 1 ∨ ¬ Fits P (n + 1) (n + 1 - 1)) := fun e => absurd e hb0
              clear hb0
              go_wp2_with fail
              (with_reducible refine (HD.out r).mono ?_)
              rintro e w6 ⟨rfl, hb6⟩
              have HF2 := Lib.hid (peel_end HPL.out (Nat.succ_le_succ (Nat.zero_le n)) HNF.out HB1.out HL1.out HL2.out hb6)
              clear hb6 HD
              generalize (if bad' = 0 then r else 0) = rr at HF2 ⊢
              go_wp2_with fail
              go_returns
              exact HF2.out
end Go.Proofs.Ytgdijlpkbbfedaa

namespace Go.Proofs.Ytgdijlpkbbfedaa
open Go.RowKit

/-- The cells of a root alone. -/
def clipP (P : Int → Int → Bool) (k : Nat) : Int → Int → Bool := fun a b => P a b && decide (-2 ^ k ≤ a ∧ a < 2 ^ k ∧ -2 ^ k ≤ b ∧ b < 2 ^ k)
theorem inB_root {k : Nat} {a b : Int} : inB (k + 1) (-2 ^ k) (-2 ^ k) a b ↔ -2 ^ k ≤ a ∧ a < 2 ^ k ∧ -2 ^ k ≤ b ∧ b < 2 ^ k := by
  unfold inB; rw [Int.pow_succ]; omega
theorem T2_clip (P : Int → Int → Bool) {k j i : Nat} (hj : j < 4) (hi : i < 4) : T2 (clipP P k) k j i = if i = 3 - j then T2 P k j i else emptyT k := by
  by_cases e : i = 3 - j
  · rw [if_pos e]
    refine treeOf_congr fun a b hb => ?_
    have := inB_root.1 ((T2_in hj hi hb).2 e)
    unfold clipP; rw [decide_eq_true this, Bool.and_true]
  · rw [if_neg e]
    refine treeOf_none fun a b hb => ?_
    have : ¬ (-2 ^ k ≤ a ∧ a < 2 ^ k ∧ -2 ^ k ≤ b ∧ b < 2 ^ k) := fun q => e ((T2_in hj hi hb).1 (inB_root.2 q))
    unfold clipP; rw [decide_eq_false this, Bool.and_false]
/-- The four parts of the wrapped root. -/
def wrapT (P : Int → Int → Bool) (k j : Nat) : Tree := .node (T2 (clipP P k) k j 0) (T2 (clipP P k) k j 1) (T2 (clipP P k) k j 2) (T2 (clipP P k) k j 3)
theorem wrapT_all (P : Int → Int → Bool) (k : Nat) : rootT (clipP P k) (k + 1) = .node (wrapT P k 0) (wrapT P k 1) (wrapT P k 2) (wrapT P k 3) := by
  unfold rootT wrapT
  rw [subT_all, ← T2_kid, ← T2_kid, ← T2_kid, ← T2_kid]
theorem wrapT_lvl (P : Int → Int → Bool) (k j : Nat) : (wrapT P k j).lvl = ((k + 1 : Nat) : Int) := by
  unfold wrapT; rw [← T2_kid]; exact subT_lvl _ _ _ _ _
/-- What is new in a wrapped root. -/
def wrapL (P : Int → Int → Bool) (k : Nat) : List Thing :=
  blanks k ++ [.sq (wrapT P k 0) (wrapT P k 1) (wrapT P k 2) (wrapT P k 3), .sq (T2 (clipP P k) k 0 0) (T2 (clipP P k) k 0 1) (T2 (clipP P k) k 0 2) (T2 (clipP P k) k 0 3), .sq (T2 (clipP P k) k 1 0) (T2 (clipP P k) k 1 1) (T2 (clipP P k) k 1 2) (T2 (clipP P k) k 1 3), .sq (T2 (clipP P k) k 2 0) (T2 (clipP P k) k 2 1) (T2 (clipP P k) k 2 2) (T2 (clipP P k) k 2 3), .sq (T2 (clipP P k) k 3 0) (T2 (clipP P k) k 3 1) (T2 (clipP P k) k 3 2) (T2 (clipP P k) k 3 3)]
theorem wrapL_len (P : Int → Int → Bool) (k : Nat) : (wrapL P k).length = k + 5 := by unfold wrapL; rw [List.length_append, blanks_length]; rfl
theorem wrap_nodes {P : Int → Int → Bool} {k j : Nat} (hj : j < 4) {x : Thing} (h : x ∈ nodes (wrapT P k j)) : x ∈ wrapL P k ∨ x ∈ nodes (rootT P k) := by
  have key : ∀ i, i < 4 → x ∈ nodes (T2 (clipP P k) k j i) → x ∈ wrapL P k ∨ x ∈ nodes (rootT P k) := fun i hi hx => by
    rw [T2_clip P hj hi] at hx
    split at hx
    · rename_i e
      refine .inr ?_
      rw [T2_inner, mem_nodes]
      subst e
      rcases four_cases hj with rfl | rfl | rfl | rfl
      · exact .inr (.inl hx)
      · exact .inr (.inr (.inl hx))
      · exact .inr (.inr (.inr (.inl hx)))
      · exact .inr (.inr (.inr (.inr hx)))
    · rw [nodes_emptyT] at hx
      exact .inl (List.mem_append_left _ hx)
  unfold wrapT at h
  rcases mem_nodes.1 h with q | q | q | q | q
  · refine .inl (List.mem_append_right _ ?_)
    rcases four_cases hj with rfl | rfl | rfl | rfl <;> simp [q]
  · exact key 0 (by decide) q
  · exact key 1 (by decide) q
  · exact key 2 (by decide) q
  · exact key 3 (by decide) q
theorem wrap_new {P : Int → Int → Bool} {k : Nat} : ∀ x ∈ wrapL P k, x ∈ nodes (rootT (clipP P k) (k + 1)) ∨ x ∈ nodes (emptyT k) := fun x hx => by
  rcases List.mem_append.1 hx with q | q
  · exact .inr ((nodes_emptyT k x).2 q)
  · refine .inl ?_
    rw [wrapT_all, mem_nodes]
    have hj : ∀ j, x = .sq (T2 (clipP P k) k j 0) (T2 (clipP P k) k j 1) (T2 (clipP P k) k j 2) (T2 (clipP P k) k j 3) → x ∈ nodes (wrapT P k j) := fun j e => by rw [e]; exact mem_nodes.2 (.inl rfl)
    simp only [List.mem_cons, List.not_mem_nil, or_false] at q
    rcases q with q | q | q | q | q
    · exact .inl q
    · exact .inr (.inl (hj 0 q))
    · exact .inr (.inr (.inl (hj 1 q)))
    · exact .inr (.inr (.inr (.inl (hj 2 q))))
    · exact .inr (.inr (.inr (.inr (hj 3 q))))
theorem wrap_made {S S1 S2 S3 : ArS} {A A1 A2 A3 : Nat → Abs} {t : Nat} {P : Int → Int → Bool} {k : Nat} {b1 b2 b3 : Int} (hr : Rel S A) (ht : t < 64) (hh : hasT (A t).have_ (rootT P k) = true) (h1 : Made t (nodes (emptyT k)) S A 0 S1 A1 b1) (h2 : Made t (upto (wrapT P k) 4) S1 A1 b1 S2 A2 b2) (h3 : Made t (nodes (.node (wrapT P k 0) (wrapT P k 1) (wrapT P k 2) (wrapT P k 3))) S2 A2 b2 S3 A3 b3) : Made t (wrapL P k) S A 0 S3 A3 b3 := by
  refine ((h1.trans h2).trans h3).shrink hr ht (fun x hx => ?_) fun x hx => ?_
  · rcases wrap_new x hx with q | q
    · rw [wrapT_all] at q; exact List.mem_append_right _ q
    · exact List.mem_append_left _ (List.mem_append_left _ q)
  · have had : x ∈ nodes (rootT P k) → x ∈ (A t).have_ := hr.nodes_has ht hh x
    have hw : ∀ j, j < 4 → x ∈ nodes (wrapT P k j) → x ∈ wrapL P k ∨ x ∈ (A t).have_ := fun j hj hx => (wrap_nodes hj hx).imp_right had
    rcases List.mem_append.1 hx with q | q
    · rcases List.mem_append.1 q with q | q
      · exact .inl (List.mem_append_left _ ((nodes_emptyT k x).1 q))
      · simp only [upto, List.nil_append, List.mem_append] at q
        rcases q with ((q | q) | q) | q
        · exact hw 0 (by decide) q
        · exact hw 1 (by decide) q
        · exact hw 2 (by decide) q
        · exact hw 3 (by decide) q
    · rcases mem_nodes.1 q with q | q | q | q | q
      · exact .inl (List.mem_append_right _ (by rw [q]; exact List.mem_cons_self ..))
      · exact hw 0 (by decide) q
      · exact hw 1 (by decide) q
      · exact hw 2 (by decide) q
      · exact hw 3 (by decide) q
def WrapPost (w : World) (p : Nat) (R : ArR) (S : ArS) (A : Nat → Abs) (t : Nat) (P : Int → Int → Bool) (k : Nat) (e : Ending) (w' : World) : Prop :=
  ∃ (r : Int) (S' : ArS) (A' : Nat → Abs) (R' : ArR) (bad' : Int), e = .returned (.tuple #[.int .i64 (if bad' = 0 then r else 0), .int .i64 bad']) ∧ Made t (wrapL P k) S A 0 S' A' bad' ∧ (bad' = 0 → Has S' A' t r (rootT (clipP P k) (k + 1))) ∧ Ar w' p R' S' A' ∧ StepH NoX p R R' w w'

set_option maxRecDepth 100000 in
set_option maxHeartbeats 3200000 in
theorem wrap_any (w : World) (p : Nat) (R : ArR) (S : ArS) (A : Nat → Abs) (h : Ar w p R S A) (t : Nat) (ht : t < 64) (P : Int → Int → Bool) (k : Nat) (hk : k ≤ 42) (root : Int) (hr : Has S A t root (rootT P k)) :
    Calls Try.prog 47 #[.pointer (some ⟨p, 0, none⟩), .int .i64 t, .int .i64 root] w (WrapPost w p R S A t P k) := by
  have hd := h.hd ht 58 []
  have HB2 := Lib.hid ((Below.refl w.heap.size w).alloc (Nat.le_refl _) (.cells (handC p t 0 []) 58))
  have hlv := hlevel_any _ w.heap.size 58 [] p R S A t 0 hd root (rootT P k) (fun _ => hr)
  unfold handC at hlv HB2
  have HV := Lib.hid hlv
  have HR := Lib.hid hr
  have HKK := Lib.hid hk
  have HREL := Lib.hid h.rel
  clear h hd hlv hr hk
  go_enter Try.func47, Try.ntmps47
  go_wp2_with fail
  (with_reducible refine HV.out.mono ?_)
  rintro e w3 ⟨lv, rfl, hlv, hd3, hs3⟩
  have hlv2 := hlv rfl
  rw [rootT_lvl] at hlv2
  subst hlv2
  have HD3 := Lib.hid hd3
  have HS3 := Lib.hid hs3
  have c2 := HD3.out.c2
  have hk0 : ((k : Int) + 1 == 0) = false := by rw [beq_eq_false_iff_ne]; omega
  have HKD := Lib.hid (hkids_any w3 w.heap.size 58 [] p R S A t 0 hd3 root _ _ _ _ (fun _ => by rw [← T2_inner]; exact HR.out))
  clear hlv hd3 hs3 HV
  go_wp2_with fail
  (with_reducible refine HKD.out.mono ?_)
  rintro e w4 ⟨k0, k1, k2, k3, rfl, hkh, _, hd4, hs4⟩
  obtain ⟨Q, rfl, rfl, rfl, rfl⟩ := four_fn k0 k1 k2 k3
  have HQ : Hid (∀ j, j < 4 → Has S A t (Q j) (T2 P k j (3 - j))) := fun j hj => by
    obtain ⟨g0, g1, g2, g3⟩ := hkh rfl
    rcases four_cases hj with rfl | rfl | rfl | rfl <;> assumption
  have HD5 := Lib.hid (hd4.alloc (.cells #[.int .i64 (Q 0), .int .i64 (Q 1), .int .i64 (Q 2), .int .i64 (Q 3)] 50))
  have HS5 := Lib.hid ((HS3.out.trans hs4).alloc (.cells #[.int .i64 (Q 0), .int .i64 (Q 1), .int .i64 (Q 2), .int .i64 (Q 3)] 50))
  have HQ5 : Hid (Blk (w4.alloc (.cells #[.int .i64 (Q 0), .int .i64 (Q 1), .int .i64 (Q 2), .int .i64 (Q 3)] 50)) w4.heap.size 50 (QC Q)) := Blk.new w4 _ _
  have HQO : Hid (¬ (Own p R w4.heap.size ∨ w4.heap.size = w.heap.size)) := fun ho => by
    have h1 := hd4.blk.lt
    rcases ho with ho | ho
    · have := hd4.arm.own_lt ho; omega
    · omega
  have c2' := HD5.out.c2
  have HE := Lib.hid (hempty_any _ w.heap.size 58 [] p R S A t 0 HD5.out k (by have := HKK.out; omega))
  clear hkh hd4 hs4 HKD c2
  have hkb : (k : Int) ≤ 42 := by have := HKK.out; omega
  go_wp2_with fail
  (with_reducible refine HE.out.mono ?_)
  rintro e w6 ⟨rE, S4, A4, R4, bad4, rfl, hm4, hh4, hd6, hs6⟩
  have HM4 := Lib.hid hm4
  have HHE := Lib.hid hh4
  have HD6 := Lib.hid hd6
  have HS6 := Lib.hid (HS5.out.trans hs6)
  have HQ6 : Hid (Blk w6 w4.heap.size 50 (QC Q)) := HQ5.out.mod hs6.mod HQO.out
  have HQO6 : Hid (¬ Own p R4 w4.heap.size) := hs6.not HQ5.out.lt (fun ho => HQO.out (.inl ho))
  have HQW : Hid (w4.heap.size ≠ w.heap.size) := fun e => HQO.out (.inr e)
  clear hm4 hh4 hd6 hs6 HE c2' HD5 HS5 HQ5 HQO
  generalize w4.heap.size = qb at HQ6 HQO6 HQW ⊢
  have HPH : Hid (w6.heap.size ≠ w.heap.size) := fun e => by have := HD6.out.blk.lt; omega
  have HPQ : Hid (qb ≠ w6.heap.size) := Nat.ne_of_lt HQ6.out.lt
  have HPL : Hid (w6.heap.size < (w6.alloc (.cells #[.int .i64 0, .int .i64 0, .int .i64 0, .int .i64 0] 50)).heap.size) := (Blk.new w6 50 #[.int .i64 0, .int .i64 0, .int .i64 0, .int .i64 0]).lt
  have HPN : Hid (¬ Own p R4 w6.heap.size) := fun ho => Nat.lt_irrefl _ (HD6.out.arm.own_lt ho)
  have HIS := Lib.hid (QuadI.start (HD6.out.alloc (.cells #[.int .i64 0, .int .i64 0, .int .i64 0, .int .i64 0] 50)) (Blk.new w6 50 #[.int .i64 0, .int .i64 0, .int .i64 0, .int .i64 0]) (wrapT P k))
  have HQ7 := Lib.hid (HQ6.out.alloc (.cells #[.int .i64 0, .int .i64 0, .int .i64 0, .int .i64 0] 50))
  have HS7 := Lib.hid (HS6.out.alloc (.cells #[.int .i64 0, .int .i64 0, .int .i64 0, .int .i64 0] 50))
  have HPW : Hid (w.heap.size < w6.heap.size) := HD6.out.blk.lt
  clear HQ6 HS6 HD6
  go_wp2_with fail
  generalize World.alloc w6 _ = w7 at HIS HQ7 HS7 HPL ⊢
  generalize w6.heap.size = pb at HIS HPL HPN HPH HPQ HPW ⊢
  go_loopw [43] (fun jv wx => ∃ (j : Nat) (V : Nat → Int) (S' : ArS) (A' : Nat → Abs) (R' : ArR) (bad' : Int), jv = .int .i64 j ∧ j ≤ 4 ∧ QuadI w7 w.heap.size pb 58 [] p R4 S4 A4 t bad4 (wrapT P k) j V S' A' R' bad' wx) (fun jv _ => 4 - (intOf jv).toNat)
  case atStart => exact ⟨0, _, S4, A4, R4, bad4, rfl, Nat.zero_le _, HIS.out⟩
  case round =>
    obtain ⟨j, V, S', A', R', bad', rfl, hj, hI⟩ := hrel
    have HI := Lib.hid hI
    clear hI
    by_cases hj4 : j < 4
    · have HQB : Hid (Blk wr qb 50 (QC Q)) := HQ7.out.mod HI.out.st.mod fun ho => by
        rcases ho with ho | ho | ho
        · exact HQO6.out ho
        · exact HQW.out ho
        · exact HPQ.out ho
      clear hj
      rcases four_cases hj4 with rfl | rfl | rfl | rfl
      all_goals clear hj4
      · have c0 : (wr.alloc (.cells #[.int .i64 rE, .int .i64 rE, .int .i64 rE, .int .i64 rE] 50)).cell? ⟨qb, 0, none⟩ = some (.int .i64 (Q 0)) := (World.cell?_alloc_lt wr _ ⟨qb, 0, none⟩ HQB.out.lt).trans (HQB.out.cellS (QC_get Q (k := 0) (by decide)))
        have hee : bad' = 0 → Has S' A' t rE (emptyT k) := fun e => (HHE.out (HI.out.made.ok e).1).st HI.out.hd.ht HI.out.made.st
        have hqq : bad' = 0 → Has S' A' t (Q 0) (T2 P k 0 3) := fun _ => ((HQ.out 0 (by decide)).st HI.out.hd.ht HM4.out.st).st HI.out.hd.ht HI.out.made.st
        have HJ : Hid (Calls Try.prog 43 #[.pointer (some ⟨w.heap.size, 0, none⟩), .agg #[.int .i64 rE, .int .i64 rE, .int .i64 rE, .int .i64 (Q 0)]] (wr.alloc (.cells #[.int .i64 rE, .int .i64 rE, .int .i64 rE, .int .i64 (Q 0)] 50)) (HandPost (wr.alloc (.cells #[.int .i64 rE, .int .i64 rE, .int .i64 rE, .int .i64 (Q 0)] 50)) w.heap.size 58 [] p R' S' A' t bad' (wrapT P k 0))) :=
          hjoin_any _ w.heap.size 58 [] p R' S' A' t bad' (HI.out.hd.alloc _) _ _ _ _ _ _ _ _ k (fun e => ⟨by rw [T2_clip P (by decide) (by decide)]; exact hee e, by rw [T2_clip P (by decide) (by decide)]; exact hee e, by rw [T2_clip P (by decide) (by decide)]; exact hee e, by rw [T2_clip P (by decide) (by decide)]; exact hqq e⟩) ⟨T2_lvl _ _ _ _, T2_lvl _ _ _ _, T2_lvl _ _ _ _, T2_lvl _ _ _ _⟩ (by have := HKK.out; omega)
        clear hee hqq
        go_wp2_with fail
        (with_reducible refine HJ.out.mono ?_)
        rintro e w8 ⟨r, S5, A5, R5, bad5, rfl, hm, hh, hd, hst⟩
        obtain ⟨g0, g1, g2⟩ := HI.out.step HPL.out HPN.out HPH.out (by decide) hm hh hd (((StepH.refl (fun b => b = w.heap.size) p R' wr).alloc _).trans hst)
        have HG := Lib.hid g2
        clear g2 hm hh hd hst HJ c0
        go_wp2_with fail
        go_roundw
        case rel => exact ⟨1, _, S5, A5, R5, bad5, by go_num, by decide, HG.out⟩
        case measure => simp [intOf]
      · have c0 : (wr.alloc (.cells #[.int .i64 rE, .int .i64 rE, .int .i64 rE, .int .i64 rE] 50)).cell? ⟨qb, 1, none⟩ = some (.int .i64 (Q 1)) := (World.cell?_alloc_lt wr _ ⟨qb, 1, none⟩ HQB.out.lt).trans (HQB.out.cellS (QC_get Q (k := 1) (by decide)))
        have hee : bad' = 0 → Has S' A' t rE (emptyT k) := fun e => (HHE.out (HI.out.made.ok e).1).st HI.out.hd.ht HI.out.made.st
        have hqq : bad' = 0 → Has S' A' t (Q 1) (T2 P k 1 2) := fun _ => ((HQ.out 1 (by decide)).st HI.out.hd.ht HM4.out.st).st HI.out.hd.ht HI.out.made.st
        have HJ : Hid (Calls Try.prog 43 #[.pointer (some ⟨w.heap.size, 0, none⟩), .agg #[.int .i64 rE, .int .i64 rE, .int .i64 (Q 1), .int .i64 rE]] (wr.alloc (.cells #[.int .i64 rE, .int .i64 rE, .int .i64 (Q 1), .int .i64 rE] 50)) (HandPost (wr.alloc (.cells #[.int .i64 rE, .int .i64 rE, .int .i64 (Q 1), .int .i64 rE] 50)) w.heap.size 58 [] p R' S' A' t bad' (wrapT P k 1))) :=
          hjoin_any _ w.heap.size 58 [] p R' S' A' t bad' (HI.out.hd.alloc _) _ _ _ _ _ _ _ _ k (fun e => ⟨by rw [T2_clip P (by decide) (by decide)]; exact hee e, by rw [T2_clip P (by decide) (by decide)]; exact hee e, by rw [T2_clip P (by decide) (by decide)]; exact hqq e, by rw [T2_clip P (by decide) (by decide)]; exact hee e⟩) ⟨T2_lvl _ _ _ _, T2_lvl _ _ _ _, T2_lvl _ _ _ _, T2_lvl _ _ _ _⟩ (by have := HKK.out; omega)
        clear hee hqq
        go_wp2_with fail
        (with_reducible refine HJ.out.mono ?_)
        rintro e w8 ⟨r, S5, A5, R5, bad5, rfl, hm, hh, hd, hst⟩
        obtain ⟨g0, g1, g2⟩ := HI.out.step HPL.out HPN.out HPH.out (by decide) hm hh hd (((StepH.refl (fun b => b = w.heap.size) p R' wr).alloc _).trans hst)
        have HG := Lib.hid g2
        clear g2 hm hh hd hst HJ c0
        go_wp2_with fail
        go_roundw
        case rel => exact ⟨2, _, S5, A5, R5, bad5, by go_num, by decide, HG.out⟩
        case measure => simp [intOf]
      · have c0 : (wr.alloc (.cells #[.int .i64 rE, .int .i64 rE, .int .i64 rE, .int .i64 rE] 50)).cell? ⟨qb, 2, none⟩ = some (.int .i64 (Q 2)) := (World.cell?_alloc_lt wr _ ⟨qb, 2, none⟩ HQB.out.lt).trans (HQB.out.cellS (QC_get Q (k := 2) (by decide)))
        have hee : bad' = 0 → Has S' A' t rE (emptyT k) := fun e => (HHE.out (HI.out.made.ok e).1).st HI.out.hd.ht HI.out.made.st
        have hqq : bad' = 0 → Has S' A' t (Q 2) (T2 P k 2 1) := fun _ => ((HQ.out 2 (by decide)).st HI.out.hd.ht HM4.out.st).st HI.out.hd.ht HI.out.made.st
        have HJ : Hid (Calls Try.prog 43 #[.pointer (some ⟨w.heap.size, 0, none⟩), .agg #[.int .i64 rE, .int .i64 (Q 2), .int .i64 rE, .int .i64 rE]] (wr.alloc (.cells #[.int .i64 rE, .int .i64 (Q 2), .int .i64 rE, .int .i64 rE] 50)) (HandPost (wr.alloc (.cells #[.int .i64 rE, .int .i64 (Q 2), .int .i64 rE, .int .i64 rE] 50)) w.heap.size 58 [] p R' S' A' t bad' (wrapT P k 2))) :=
          hjoin_any _ w.heap.size 58 [] p R' S' A' t bad' (HI.out.hd.alloc _) _ _ _ _ _ _ _ _ k (fun e => ⟨by rw [T2_clip P (by decide) (by decide)]; exact hee e, by rw [T2_clip P (by decide) (by decide)]; exact hqq e, by rw [T2_clip P (by decide) (by decide)]; exact hee e, by rw [T2_clip P (by decide) (by decide)]; exact hee e⟩) ⟨T2_lvl _ _ _ _, T2_lvl _ _ _ _, T2_lvl _ _ _ _, T2_lvl _ _ _ _⟩ (by have := HKK.out; omega)
        clear hee hqq
        go_wp2_with fail
        (with_reducible refine HJ.out.mono ?_)
        rintro e w8 ⟨r, S5, A5, R5, bad5, rfl, hm, hh, hd, hst⟩
        obtain ⟨g0, g1, g2⟩ := HI.out.step HPL.out HPN.out HPH.out (by decide) hm hh hd (((StepH.refl (fun b => b = w.heap.size) p R' wr).alloc _).trans hst)
        have HG := Lib.hid g2
        clear g2 hm hh hd hst HJ c0
        go_wp2_with fail
        go_roundw
        case rel => exact ⟨3, _, S5, A5, R5, bad5, by go_num, by decide, HG.out⟩
        case measure => simp [intOf]
      · have c0 : (wr.alloc (.cells #[.int .i64 rE, .int .i64 rE, .int .i64 rE, .int .i64 rE] 50)).cell? ⟨qb, 3, none⟩ = some (.int .i64 (Q 3)) := (World.cell?_alloc_lt wr _ ⟨qb, 3, none⟩ HQB.out.lt).trans (HQB.out.cellS (QC_get Q (k := 3) (by decide)))
        have hee : bad' = 0 → Has S' A' t rE (emptyT k) := fun e => (HHE.out (HI.out.made.ok e).1).st HI.out.hd.ht HI.out.made.st
        have hqq : bad' = 0 → Has S' A' t (Q 3) (T2 P k 3 0) := fun _ => ((HQ.out 3 (by decide)).st HI.out.hd.ht HM4.out.st).st HI.out.hd.ht HI.out.made.st
        have HJ : Hid (Calls Try.prog 43 #[.pointer (some ⟨w.heap.size, 0, none⟩), .agg #[.int .i64 (Q 3), .int .i64 rE, .int .i64 rE, .int .i64 rE]] (wr.alloc (.cells #[.int .i64 (Q 3), .int .i64 rE, .int .i64 rE, .int .i64 rE] 50)) (HandPost (wr.alloc (.cells #[.int .i64 (Q 3), .int .i64 rE, .int .i64 rE, .int .i64 rE] 50)) w.heap.size 58 [] p R' S' A' t bad' (wrapT P k 3))) :=
          hjoin_any _ w.heap.size 58 [] p R' S' A' t bad' (HI.out.hd.alloc _) _ _ _ _ _ _ _ _ k (fun e => ⟨by rw [T2_clip P (by decide) (by decide)]; exact hqq e, by rw [T2_clip P (by decide) (by decide)]; exact hee e, by rw [T2_clip P (by decide) (by decide)]; exact hee e, by rw [T2_clip P (by decide) (by decide)]; exact hee e⟩) ⟨T2_lvl _ _ _ _, T2_lvl _ _ _ _, T2_lvl _ _ _ _, T2_lvl _ _ _ _⟩ (by have := HKK.out; omega)
        clear hee hqq
        go_wp2_with fail
        (with_reducible refine HJ.out.mono ?_)
        rintro e w8 ⟨r, S5, A5, R5, bad5, rfl, hm, hh, hd, hst⟩
        obtain ⟨g0, g1, g2⟩ := HI.out.step HPL.out HPN.out HPH.out (by decide) hm hh hd (((StepH.refl (fun b => b = w.heap.size) p R' wr).alloc _).trans hst)
        have HG := Lib.hid g2
        clear g2 hm hh hd hst HJ c0
        go_wp2_with fail
        go_roundw
        case rel => exact ⟨4, _, S5, A5, R5, bad5, by go_num, by decide, HG.out⟩
        case measure => simp [intOf]
    · have hj5 : j = 4 := by omega
      subst hj5
      have v0 := HI.out.q.cellS (QC_get V (k := 0) (by decide))
      have v1 := HI.out.q.cellS (QC_get V (k := 1) (by decide))
      have v2 := HI.out.q.cellS (QC_get V (k := 2) (by decide))
      have v3 := HI.out.q.cellS (QC_get V (k := 3) (by decide))
      have HJ := Lib.hid (hjoin_any wr w.heap.size 58 [] p R' S' A' t bad' HI.out.hd (V 0) (V 1) (V 2) (V 3) _ _ _ _ ((k + 1 : Nat) : Int) (fun e => ⟨HI.out.has e 0 (by decide), HI.out.has e 1 (by decide), HI.out.has e 2 (by decide), HI.out.has e 3 (by decide)⟩) ⟨wrapT_lvl P k 0, wrapT_lvl P k 1, wrapT_lvl P k 2, wrapT_lvl P k 3⟩ (by have := HKK.out; omega))
      clear hj hj4
      go_wp2_with fail
      (with_reducible refine HJ.out.mono ?_)
      rintro e w8 ⟨r, S5, A5, R5, bad5, rfl, hm, hh, hd, hst⟩
      have HM5 := Lib.hid (wrap_made HREL.out HI.out.hd.ht HR.out.2 HM4.out HI.out.made hm)
      have HH5 : Hid (bad5 = 0 → Has S5 A5 t r (rootT (clipP P k) (k + 1))) := by rw [wrapT_all]; exact hh
      have c2 := hd.c2
      have HF := Lib.hid (fun w9 (hb9 : Below w8.heap.size w8 w9) => show WrapPost w p R S A t P k (.returned (.tuple #[.int .i64 (if bad5 = 0 then r else 0), .int .i64 bad5])) w9 from
        ⟨r, S5, A5, R5, bad5, rfl, HM5.out, HH5.out, (hd.below hb9).ar, ((((StepH.of_below HB2.out).trans (HS7.out.wide fun b _ e => .inl e)).trans ((HI.out.st.trans (hst.wide fun b _ e => .inl e)))).wide fun b hb e => by
          have := HPW.out
          rcases e with e | e <;> omega).below hb9⟩)
      clear hm hh hd hst v0 v1 v2 v3 HJ
      go_wp2_with fail
      (with_reducible refine (done_any w8 _ bad5 c2 r).mono ?_)
      rintro e w9 ⟨rfl, hb9⟩
      have HF2 := Lib.hid (HF.out w9 hb9)
      clear hb9 HF c2
      generalize (if bad5 = 0 then r else 0) = rr at HF2 ⊢
      go_wp2_with fail
      go_returns
      exact HF2.out
end Go.Proofs.Ytgdijlpkbbfedaa
