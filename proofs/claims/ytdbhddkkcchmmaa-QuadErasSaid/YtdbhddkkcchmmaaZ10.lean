/- quad: a set of cells with one cell more or less, as a tree. · quad: a walker's memory, map[int]int. · quad: put. · quad: a walker in memory; empty. -/
import Derived.Test.YtdbhddkkcchmmaaZ9
import Derived.Test.YtdbhddkkcchmmaaZ2

namespace Go.Proofs.Ytdbhddkkcchmmaa
open Go.RowKit

/-- The set with one cell alive or dead. -/
def setP (P : Int → Int → Bool) (a b : Int) (v : Bool) : Int → Int → Bool := fun c d => if c = a ∧ d = b then v else P c d
theorem setP_ne {P : Int → Int → Bool} {a b c d : Int} {v : Bool} (h : ¬ (c = a ∧ d = b)) : setP P a b v c d = P c d := by unfold setP; rw [if_neg h]
theorem setP_eq {P : Int → Int → Bool} {a b : Int} {v : Bool} : setP P a b v a b = v := by unfold setP; rw [if_pos ⟨rfl, rfl⟩]
/-- A part of a square. -/
def subT (P : Int → Int → Bool) (n : Nat) (X Y : Int) (k : Nat) : Tree := treeOf P n (gx (2 ^ n) X k) (gy (2 ^ n) Y k)
theorem subT_all (P : Int → Int → Bool) (n : Nat) (X Y : Int) : treeOf P (n + 1) X Y = .node (subT P n X Y 0) (subT P n X Y 1) (subT P n X Y 2) (subT P n X Y 3) := by
  simp [treeOf, subT, gx, gy]
theorem subT_lvl (P : Int → Int → Bool) (n : Nat) (X Y : Int) (k : Nat) : (subT P n X Y k).lvl = n := treeOf_lvl _ _ _ _
/-- The part in which a place lies. -/
def qk (n : Nat) (x y : Int) : Nat := (if 2 ^ n ≤ x then 1 else 0) + (if 2 ^ n ≤ y then 2 else 0)
def qx (n : Nat) (x : Int) : Int := if 2 ^ n ≤ x then x - 2 ^ n else x
theorem qk_lt (n : Nat) (x y : Int) : qk n x y < 4 := by unfold qk; split <;> split <;> omega
theorem qx_bd {n : Nat} {x : Int} (h : 0 ≤ x ∧ x < 2 ^ (n + 1)) : 0 ≤ qx n x ∧ qx n x < 2 ^ n := by
  rw [Int.pow_succ] at h
  unfold qx; split <;> omega
theorem gx_qx (n : Nat) (X x y : Int) : gx (2 ^ n) X (qk n x y) + qx n x = X + x := by
  unfold gx qk qx
  by_cases h1 : 2 ^ n ≤ x <;> by_cases h2 : 2 ^ n ≤ y <;> simp [h1, h2] <;> omega
theorem gy_qx (n : Nat) (Y x y : Int) : gy (2 ^ n) Y (qk n x y) + qx n y = Y + y := by
  unfold gy qk qx
  by_cases h1 : 2 ^ n ≤ x <;> by_cases h2 : 2 ^ n ≤ y <;> simp [h1, h2] <;> omega
theorem subT_other {P : Int → Int → Bool} {n : Nat} {X Y x y : Int} {v : Bool} {k : Nat} (hx : 0 ≤ x ∧ x < 2 ^ (n + 1)) (hy : 0 ≤ y ∧ y < 2 ^ (n + 1)) (hk : k < 4) (hne : k ≠ qk n x y) : subT (setP P (X + x) (Y + y) v) n X Y k = subT P n X Y k :=
  treeOf_congr fun a b hb => setP_ne fun e => hne (by
    have hp := pow_pos2 n
    rw [Int.pow_succ] at hx hy
    obtain ⟨rfl, rfl⟩ := e
    unfold inB gx gy at hb
    unfold qk
    rcases (by omega : k = 0 ∨ k = 1 ∨ k = 2 ∨ k = 3) with rfl | rfl | rfl | rfl
    · simp at hb; rw [if_neg (by omega), if_neg (by omega)]
    · simp at hb; rw [if_pos (by omega), if_neg (by omega)]
    · simp at hb; rw [if_neg (by omega), if_pos (by omega)]
    · simp at hb; rw [if_pos (by omega), if_pos (by omega)])
theorem subT_here {P : Int → Int → Bool} {n : Nat} {X Y x y : Int} {v : Bool} : subT (setP P (X + x) (Y + y) v) n X Y (qk n x y) = treeOf (setP P (gx (2 ^ n) X (qk n x y) + qx n x) (gy (2 ^ n) Y (qk n x y) + qx n y) v) n (gx (2 ^ n) X (qk n x y)) (gy (2 ^ n) Y (qk n x y)) := by
  rw [gx_qx, gy_qx]; rfl
/-- A cell more or less makes few new squares. -/
theorem put_few (P : Int → Int → Bool) (v : Bool) : ∀ (n : Nat) (X Y x y : Int), 0 ≤ x ∧ x < 2 ^ n → 0 ≤ y ∧ y < 2 ^ n → ∃ V : List Thing, V.length ≤ n ∧ ∀ z ∈ nodes (treeOf (setP P (X + x) (Y + y) v) n X Y), z ∈ nodes (treeOf P n X Y) ∨ z ∈ V
  | 0, X, Y, x, y, _, _ => ⟨[], Nat.le_refl _, fun z hz => by
    simp only [treeOf] at hz
    split at hz <;> simp [nodes] at hz⟩
  | n + 1, X, Y, x, y, hx, hy => by
    obtain ⟨V, h1, h2⟩ := put_few P v n (gx (2 ^ n) X (qk n x y)) (gy (2 ^ n) Y (qk n x y)) (qx n x) (qx n y) (qx_bd hx) (qx_bd hy)
    refine ⟨.sq (subT (setP P (X + x) (Y + y) v) n X Y 0) (subT (setP P (X + x) (Y + y) v) n X Y 1) (subT (setP P (X + x) (Y + y) v) n X Y 2) (subT (setP P (X + x) (Y + y) v) n X Y 3) :: V, by simp; omega, fun z hz => ?_⟩
    rw [subT_all, mem_nodes] at hz
    rw [subT_all, mem_nodes, List.mem_cons]
    have key : ∀ k, k < 4 → z ∈ nodes (subT (setP P (X + x) (Y + y) v) n X Y k) → z ∈ nodes (subT P n X Y k) ∨ z ∈ V := fun k hk hz => by
      by_cases e : k = qk n x y
      · subst e
        rw [subT_here] at hz
        exact h2 z hz
      · rw [subT_other hx hy hk e] at hz; exact .inl hz
    rcases hz with h | h | h | h | h
    · exact .inr (.inl h)
    · rcases key 0 (by decide) h with q | q
      · exact .inl (.inr (.inl q))
      · exact .inr (.inr q)
    · rcases key 1 (by decide) h with q | q
      · exact .inl (.inr (.inr (.inl q)))
      · exact .inr (.inr q)
    · rcases key 2 (by decide) h with q | q
      · exact .inl (.inr (.inr (.inr (.inl q))))
      · exact .inr (.inr q)
    · rcases key 3 (by decide) h with q | q
      · exact .inl (.inr (.inr (.inr (.inr q))))
      · exact .inr (.inr q)
/-- How many cells live in a square. -/
def cntT : Tree → Nat
  | .dead => 0
  | .alive => 1
  | .node a b c d => cntT a + cntT b + cntT c + cntT d
theorem cnt_set {P : Int → Int → Bool} : ∀ (n : Nat) (X Y x y : Int), 0 ≤ x ∧ x < 2 ^ n → 0 ≤ y ∧ y < 2 ^ n → cntT (treeOf (setP P (X + x) (Y + y) true) n X Y) = cntT (treeOf (setP P (X + x) (Y + y) false) n X Y) + 1
  | 0, X, Y, x, y, hx, hy => by
    have h1 : x = 0 := by simp at hx; omega
    have h2 : y = 0 := by simp at hy; omega
    subst h1 h2
    simp [treeOf, setP, cntT]
  | n + 1, X, Y, x, y, hx, hy => by
    have ih := cnt_set n (gx (2 ^ n) X (qk n x y)) (gy (2 ^ n) Y (qk n x y)) (qx n x) (qx n y) (P := P) (qx_bd hx) (qx_bd hy)
    have hh : ∀ v, subT (setP P (X + x) (Y + y) v) n X Y (qk n x y) = treeOf (setP P (gx (2 ^ n) X (qk n x y) + qx n x) (gy (2 ^ n) Y (qk n x y) + qx n y) v) n (gx (2 ^ n) X (qk n x y)) (gy (2 ^ n) Y (qk n x y)) := fun v => subT_here
    rw [← hh, ← hh] at ih
    have ho : ∀ k, k < 4 → k ≠ qk n x y → cntT (subT (setP P (X + x) (Y + y) true) n X Y k) = cntT (subT (setP P (X + x) (Y + y) false) n X Y k) := fun k hk hne => by rw [subT_other hx hy hk hne, subT_other hx hy hk hne]
    rw [subT_all, subT_all]
    simp only [cntT]
    have hlt := qk_lt n x y
    rcases (by omega : qk n x y = 0 ∨ qk n x y = 1 ∨ qk n x y = 2 ∨ qk n x y = 3) with e | e | e | e
    · rw [e] at ih
      have := ho 1 (by decide) (by omega); have := ho 2 (by decide) (by omega); have := ho 3 (by decide) (by omega); omega
    · rw [e] at ih
      have := ho 0 (by decide) (by omega); have := ho 2 (by decide) (by omega); have := ho 3 (by decide) (by omega); omega
    · rw [e] at ih
      have := ho 0 (by decide) (by omega); have := ho 1 (by decide) (by omega); have := ho 3 (by decide) (by omega); omega
    · rw [e] at ih
      have := ho 0 (by decide) (by omega); have := ho 1 (by decide) (by omega); have := ho 2 (by decide) (by omega); omega
end Go.Proofs.Ytdbhddkkcchmmaa

namespace Go.Proofs.Ytdbhddkkcchmmaa
open Go.RowKit Go.ChangeMaps Go.WideElems Go.WideMaps

/-- Block b is a map of just these keys; m is what is read. -/
def MapN (w : World) (b : Nat) (K : List Int) (m : Int → Int) : Prop :=
  ∃ D : DataW Unit, w.ownsMap Try.prog 3 (plainElem Try.prog 3) b K.length D ∧ Maps.size D = K.length ∧ ∀ x, i64r x → Maps.has D (.int .i64 x) = decide (x ∈ K) ∧ D.atKey (.int .i64 x) (.lit (.int .i64 0)) = .lit (.int .i64 (m x))
section
variable {w w' : World} {b : Nat} {K : List Int} {m : Int → Int}
theorem MapN.of_block (h : MapN w b K m) (e : w'.heap[b]? = w.heap[b]?) : MapN w' b K m := by obtain ⟨D, h1, h2⟩ := h; exact ⟨D, ownsMap_blockK h1 e, h2⟩
theorem MapN.lt (h : MapN w b K m) : b < w.heap.size := by obtain ⟨D, h1, _⟩ := h; exact h1.lt
theorem MapN.made (w : World) : MapN (w.alloc (.map #[] 0)) w.heap.size [] (fun _ => 0) := ⟨_, World.ownsMap_made w _ _ _, rfl, fun x _ => ⟨by simp [Maps.has], rfl⟩⟩
theorem MapN.mod {T : Nat → Prop} (h : MapN w b K m) (hm : Mod T w w') (hT : ¬ T b) : MapN w' b K m := h.of_block (hm.block _ h.lt hT)
theorem MapN.ne (h : MapN w b K m) {p t : Nat} {cs : Array Value} (hp : Blk w p t cs) : b ≠ p := by
  rintro rfl
  obtain ⟨D, ⟨es, clock, hb, _⟩, _⟩ := h
  unfold Blk at hp
  rw [hb] at hp
  cases hp
set_option maxRecDepth 100000 in
/-- 'm[k]'. -/
theorem MapN.look (h : MapN w b K m) {x : Int} (hx : i64r x) : (Instr.lookup 72 (.map (some b)) (.int .i64 x) false).run Try.prog w = .ok (.int .i64 (m x)) w := by
  obtain ⟨D, hown, _, h1⟩ := h
  obtain ⟨c, hrun, hat, _⟩ := hown.lookup_int Try.lawIntK Try.underlying72 Try.underlying3 (Try.zeroIntK w) (keyOf_i hx)
  rw [(h1 x hx).2] at hat
  injection hat with hat
  injection hat with _ hat
  rw [hrun, hat]
set_option maxRecDepth 100000 in
/-- 'v, ok := m[k]'. -/
theorem MapN.look_ok (h : MapN w b K m) {x : Int} (hx : i64r x) : (Instr.lookup 72 (.map (some b)) (.int .i64 x) true).run Try.prog w = .ok (.tuple #[.int .i64 (m x), .bool (decide (x ∈ K))]) w := by
  obtain ⟨D, hown, _, h1⟩ := h
  obtain ⟨v, ps, hrun, hv⟩ := hown.look_ok Try.lawIntK Try.underlying72 (Try.zeroIntK w) (plainElem_int Try.underlying3 (by decide)) (keyOf_i hx)
  obtain ⟨y, rfl, hy, _⟩ := plainElem_int_inv Try.underlying3 hv
  simp only [Prod.mk.injEq] at hy
  have hat := hy.1
  rw [(h1 x hx).2] at hat
  injection hat with hat
  injection hat with _ hat
  rw [hrun, (h1 x hx).1, hat]
set_option maxRecDepth 100000 in
/-- 'm[k] = v'. -/
theorem MapN.put (h : MapN w b K m) {x v : Int} (hx : i64r x) (hc : K.length < maxLen) (hv : i64r v) :
    ∃ w', (Instr.mapUpdate 72 (.map (some b)) (.int .i64 x) (.int .i64 v)).run Try.prog w = .ok () w' ∧ MapN w' b (if x ∈ K then K else x :: K) (fun y => if y = x then v else m y) ∧ Mod (fun q => q = b) w w' := by
  obtain ⟨D, hown, hs, h1⟩ := h
  obtain ⟨w', u1, u2, u3⟩ := hown.store Try.lawIntK Try.underlying72 hc (keyOf_i hx) (plainElem_int Try.underlying3 hv.wf)
  have hsz : Maps.size (D.put (.int .i64 x) (.lit (.int .i64 v))) = (if x ∈ K then K else x :: K).length := by
    rw [Maps.size_put (hown.tidy Try.lawIntK), hs, (h1 x hx).1]
    by_cases e : x ∈ K
    · simp [e]
    · simp [e]
  refine ⟨w', u1, ⟨_, ?_, hsz, fun y hy => ?_⟩, turned_modK u3⟩
  · have := ownsMap_tight u2
    rw [hsz] at this; exact this
  · by_cases e : y = x
    · subst e
      refine ⟨?_, ?_⟩
      · rw [Maps.has_put_same hown.isMap (show WideAt.IsKeyLit (.int .i64 y) from trivial)]
        by_cases e2 : y ∈ K
        · simp [e2]
        · simp [e2]
      · rw [Maps.atKey_put_same hown.isMap (show WideAt.IsKeyLit (.int .i64 y) from trivial)]; simp
    · have hne : (Lit.int .i64 y) ≠ (.int .i64 x) := by intro e2; injection e2 with _ e2; exact e e2
      refine ⟨?_, ?_⟩
      · rw [Maps.has_put_other hne, (h1 y hy).1]
        by_cases e2 : x ∈ K
        · simp [e2]
        · simp [e2, e]
      · rw [Maps.atKey_put_other hne, (h1 y hy).2]; simp only [e, if_false]
end
end Go.Proofs.Ytdbhddkkcchmmaa

namespace Go.Proofs.Ytdbhddkkcchmmaa
open Go.RowKit

def PutOk (n : Nat) : Prop := ∀ (w : World) (hb : Nat) (ty : TypeId) (more : List Value) (p : Nat) (R : ArR) (S : ArS) (A : Nat → Abs) (t : Nat) (bad : Int), Hd w hb ty more p R S A t bad →
  ∀ (id : Int) (P : Int → Int → Bool) (X Y x y : Int) (al : Bool), 0 ≤ x ∧ x < 2 ^ n → 0 ≤ y ∧ y < 2 ^ n → (bad = 0 → Has S A t id (treeOf P n X Y)) →
  Calls Try.prog 34 #[.pointer (some ⟨hb, 0, none⟩), .int .i64 id, .int .i64 x, .int .i64 y, .int .i64 n, .bool al] w (HandPost w hb ty more p R S A t bad (treeOf (setP P (X + x) (Y + y) al) n X Y))

set_option maxRecDepth 100000 in
set_option maxHeartbeats 3200000 in
theorem put_zero : PutOk 0 := by
  intro w hb ty more p R S A t bad h id P X Y x y al hx hy hq
  have h1 : x = 0 := by simp at hx; omega
  have h2 : y = 0 := by simp at hy; omega
  subst h1 h2
  have hT : treeOf (setP P (X + 0) (Y + 0) al) 0 X Y = if al then .alive else .dead := by
    simp [treeOf, setP]
  rw [hT]
  have H := Lib.hid h
  clear h hq hT hx hy
  cases al
  · go_enter Try.func34, Try.ntmps34
    go_wp2_with fail
    go_returns
    exact ⟨0, S, A, R, bad, rfl, Made.refl H.out.rel t bad, fun _ => Has.dead, H.out, StepH.refl _ p R w⟩
  · go_enter Try.func34, Try.ntmps34
    go_wp2_with fail
    go_returns
    exact ⟨1, S, A, R, bad, rfl, Made.refl H.out.rel t bad, fun _ => Has.alive, H.out, StepH.refl _ p R w⟩

/-- Four numbers lie in a block of the function's own, beside a hand. -/
structure Beside (w : World) (hb qb : Nat) (ty : TypeId) (more : List Value) (p : Nat) (R : ArR) (S : ArS) (A : Nat → Abs) (t : Nat) (bad : Int) (Q : Nat → Int) (R' : ArR) (S' : ArS) (A' : Nat → Abs) (bad' : Int) (wx : World) : Prop where
  hd : Hd wx hb ty more p R' S' A' t bad'
  q : Blk wx qb 51 (QC Q)
  lo : w.heap.size ≤ qb
  no : ¬ Own p R' qb
  st : StepH (fun b => b = hb ∨ w.heap.size ≤ b) p R R' w wx
theorem Hd.beside {w w1 : World} {hb : Nat} {ty : TypeId} {more : List Value} {p : Nat} {R : ArR} {S : ArS} {A : Nat → Abs} {t : Nat} {bad : Int} {Q : Nat → Int} (h : Hd w1 hb ty more p R S A t bad) (hs : StepH (fun b => b = hb) p R R w w1) : Beside w hb w1.heap.size ty more p R S A t bad Q R S A bad (w1.alloc (.cells (QC Q) 51)) :=
  ⟨h.alloc _, Blk.new _ _ _, hs.mod.size, fun ho => Nat.lt_irrefl _ (h.arm.own_lt ho), (hs.wide fun _b _ e => .inl e).alloc _⟩
theorem Beside.step {w w1 wx : World} {hb qb : Nat} {ty : TypeId} {more : List Value} {p : Nat} {R R' R2 : ArR} {S S' S2 : ArS} {A A' A2 : Nat → Abs} {t : Nat} {bad bad' bad2 : Int} {Q : Nat → Int} (h : Beside w hb qb ty more p R S A t bad Q R' S' A' bad' wx) (hlt : hb < w.heap.size)
    (hd : Hd w1 hb ty more p R2 S2 A2 t bad2) (hst : StepH (fun b => b = hb) p R' R2 wx w1) : Beside w hb qb ty more p R S A t bad Q R2 S2 A2 bad2 w1 :=
  ⟨hd, h.q.mod hst.mod fun ho => by
    rcases ho with ho | ho
    · exact h.no ho
    · have := h.lo; omega, h.lo, hst.not h.q.lt h.no, h.st.trans (hst.wide fun b _ e => .inl e)⟩
theorem Beside.set {w wx : World} {hb qb : Nat} {ty : TypeId} {more : List Value} {p : Nat} {R R' : ArR} {S S' : ArS} {A A' : Nat → Abs} {t : Nat} {bad bad' : Int} {Q : Nat → Int} (h : Beside w hb qb ty more p R S A t bad Q R' S' A' bad' wx) (hlt : hb < w.heap.size) {k : Nat} (hk : k < 4) (r : Int) :
    Beside w hb qb ty more p R S A t bad (upd Q k r) R' S' A' bad' (wx.setCell ⟨qb, k, none⟩ (.int .i64 r)) := by
  have hlo := h.lo
  refine ⟨h.hd.keep (T := fun b => b = qb) ((Mod.refl (fun b => b = qb) wx).set (p := ⟨qb, k, none⟩) (fun _ => rfl) _) (fun b hb e => by subst e; exact h.no hb) (by omega), ?_, hlo, h.no, h.st.set (q := ⟨qb, k, none⟩) (fun _ => .inr hlo) _⟩
  rw [← QC_set Q hk]; exact h.q.set k _
theorem Beside.fin {w wx w1 : World} {hb qb : Nat} {ty : TypeId} {more : List Value} {p : Nat} {R R' R2 : ArR} {S S' : ArS} {A A' : Nat → Abs} {t : Nat} {bad bad' : Int} {Q : Nat → Int} (h : Beside w hb qb ty more p R S A t bad Q R' S' A' bad' wx) (hst : StepH (fun b => b = hb) p R' R2 wx w1) : StepH (fun b => b = hb) p R R2 w w1 :=
  (h.st.trans (hst.wide fun b _ e => .inl e)).wide fun b hb e => by
    rcases e with e | e
    · exact e
    · omega

theorem kids_upd {S : ArS} {A : Nat → Abs} {t : Nat} {Q : Nat → Int} {T : Nat → Tree} {k : Nat} {r : Int} (h : Has S A t r (T k)) (h2 : ∀ j, j < 4 → j ≠ k → Has S A t (Q j) (T j)) : ∀ j, j < 4 → Has S A t (upd Q k r j) (T j) := fun j hj => by
  by_cases e : j = k
  · subst e; rw [upd_same]; exact h
  · rw [upd_ne _ _ e]; exact h2 j hj e

set_option maxRecDepth 100000 in
set_option maxHeartbeats 3200000 in
theorem put_more (n : Nat) (hn : n + 1 ≤ 44) (ih : PutOk n) : PutOk (n + 1) := by
  intro w hb ty more p R S A t bad h id P X Y x y al hx hy hq
  have hp1 := pow_i64 (n := n) (by omega)
  have hp2 := pow_pos2 n
  have HQ : Hid (bad = 0 → Has S A t id (.node (subT P n X Y 0) (subT P n X Y 1) (subT P n X Y 2) (subT P n X Y 3))) := by rw [← subT_all]; exact hq
  have HX := Lib.hid hx
  have HY := Lib.hid hy
  obtain ⟨hx1, hx2⟩ := hx
  obtain ⟨hy1, hy2⟩ := hy
  rw [Int.pow_succ] at hx2 hy2
  have H := Lib.hid h
  have HK := Lib.hid (hkids_any w hb ty more p R S A t bad h id _ _ _ _ HQ.out)
  have HLT := Lib.hid h.blk.lt
  clear h hq
  have hn0 : ((n : Int) + 1 == 0) = false := by simp; omega
  rw [show ((n + 1 : Nat) : Int) = (n : Int) + 1 by omega, subT_all]
  have HO : Hid (∀ j, j < 4 → j ≠ qk n x y → subT (setP P (X + x) (Y + y) al) n X Y j = subT P n X Y j) := fun j hj hne => subT_other HX.out HY.out hj hne
  have HTL : Hid (∀ j, (subT (setP P (X + x) (Y + y) al) n X Y j).lvl = n) := fun j => subT_lvl _ n X Y j
  have hhe : subT (setP P (X + x) (Y + y) al) n X Y (qk n x y) = treeOf (setP P (gx (2 ^ n) X (qk n x y) + qx n x) (gy (2 ^ n) Y (qk n x y) + qx n y) al) n (gx (2 ^ n) X (qk n x y)) (gy (2 ^ n) Y (qk n x y)) := subT_here
  have HHE := Lib.hid hhe
  clear hhe
  generalize subT (setP P (X + x) (Y + y) al) n X Y = T at HO HTL HHE ⊢
  go_enter Try.func34, Try.ntmps34
  go_wp2_with fail
  (with_reducible refine HK.out.mono ?_)
  rintro e w1 ⟨k0, k1, k2, k3, rfl, hkh, _, hd1, hs1⟩
  obtain ⟨Q, q0, q1, q2, q3⟩ : ∃ Q : Nat → Int, Q 0 = k0 ∧ Q 1 = k1 ∧ Q 2 = k2 ∧ Q 3 = k3 := ⟨fun k => if k = 0 then k0 else if k = 1 then k1 else if k = 2 then k2 else k3, rfl, rfl, rfl, rfl⟩
  subst q0 q1 q2 q3
  have HB := Lib.hid (hd1.beside (Q := Q) hs1)
  have HKH : Hid (bad = 0 → ∀ k, k < 4 → Has S A t (Q k) (subT P n X Y k)) := fun e k hk => by
    obtain ⟨g0, g1, g2, g3⟩ := hkh e
    rcases (by omega : k = 0 ∨ k = 1 ∨ k = 2 ∨ k = 3) with rfl | rfl | rfl | rfl <;> assumption
  clear hkh hd1 hs1 HK
  have hi := ih _ hb ty more p R S A t bad HB.out.hd (Q (qk n x y)) P (gx (2 ^ n) X (qk n x y)) (gy (2 ^ n) Y (qk n x y)) (qx n x) (qx n y) al (qx_bd HX.out) (qx_bd HY.out) (fun e => HKH.out e _ (qk_lt n x y))
  rw [← HHE.out] at hi
  have hk4 := qk_lt n x y
  clear HHE
  generalize hkk : qk n x y = k at hi HO hk4
  unfold qk at hkk
  have HK4 := Lib.hid hk4
  clear hk4
  by_cases hx4 : 2 ^ n ≤ x <;> by_cases hy4 : 2 ^ n ≤ y
  · have e : k = 3 := by rw [← hkk]; simp [hx4, hy4]
    subst e
    unfold qx at hi
    (first | rw [if_pos hx4] at hi | rw [if_neg hx4] at hi)
    (first | rw [if_pos hy4] at hi | rw [if_neg hy4] at hi)
    unfold QC at hi
    have HI := Lib.hid hi
    clear hi hkk
    go_wp2_with fail
    (with_reducible refine HI.out.mono ?_)
    rintro e w3 ⟨r, S2, A2, R2, bad2, rfl, hm, hh, hd, hst⟩
    have HB2 := Lib.hid (HB.out.step HLT.out hd hst)
    have HB3 := Lib.hid (HB2.out.set HLT.out HK4.out r)
    have u0 := HB2.out.q.cellS (QC_get Q HK4.out)
    have f0 := HB2.out.q.frozen 3
    have hall : bad2 = 0 → ∀ j, j < 4 → Has S2 A2 t (upd Q 3 r j) (T j) := fun e => kids_upd (hh e) (fun j hj hne => by
      rw [HO.out j hj hne]; exact (HKH.out ((hm.ok e).1) j hj).st HB2.out.hd.ht hm.st)
    have c0 : (w3.setCell ⟨w1.heap.size, 3, none⟩ (.int .i64 r)).cell? ⟨w1.heap.size, 0, none⟩ = some (.int .i64 (Q 0)) := HB3.out.q.cellS (QC_get _ (k := 0) (by decide))
    have c1 : (w3.setCell ⟨w1.heap.size, 3, none⟩ (.int .i64 r)).cell? ⟨w1.heap.size, 1, none⟩ = some (.int .i64 (Q 1)) := HB3.out.q.cellS (QC_get _ (k := 1) (by decide))
    have c2 : (w3.setCell ⟨w1.heap.size, 3, none⟩ (.int .i64 r)).cell? ⟨w1.heap.size, 2, none⟩ = some (.int .i64 (Q 2)) := HB3.out.q.cellS (QC_get _ (k := 2) (by decide))
    have c3 : (w3.setCell ⟨w1.heap.size, 3, none⟩ (.int .i64 r)).cell? ⟨w1.heap.size, 3, none⟩ = some (.int .i64 r) := HB3.out.q.cellS (QC_get _ (k := 3) (by decide))
    have HJ : Hid (Calls Try.prog 50 #[.pointer (some ⟨hb, 0, none⟩), .agg #[.int .i64 (Q 0), .int .i64 (Q 1), .int .i64 (Q 2), .int .i64 r]] (w3.setCell ⟨w1.heap.size, 3, none⟩ (.int .i64 r)) (HandPost (w3.setCell ⟨w1.heap.size, 3, none⟩ (.int .i64 r)) hb ty more p R2 S2 A2 t bad2 (.node (T 0) (T 1) (T 2) (T 3)))) :=
      hjoin_any _ hb ty more p R2 S2 A2 t bad2 HB3.out.hd _ _ _ _ _ _ _ _ n (fun e => ⟨hall e 0 (by decide), hall e 1 (by decide), hall e 2 (by decide), hall e 3 (by decide)⟩) ⟨HTL.out 0, HTL.out 1, HTL.out 2, HTL.out 3⟩ (by omega)
    have HM := Lib.hid hm
    clear hm hh hd hst HI hall
    go_wp2_with fail
    (with_reducible refine HJ.out.mono ?_)
    rintro e w4 ⟨r2, S3, A3, R3, bad3, rfl, hm, hh, hd, hst⟩
    have HM2 := Lib.hid (HM.out.next hm fun z hz => mem_nodes.2 (.inr (.inr (.inr (.inr hz)))))
    have HH := Lib.hid hh
    have HD := Lib.hid hd
    have HS2 := Lib.hid (HB3.out.fin hst)
    clear hm hh hd hst c0 c1 c2 c3 u0 f0 HJ
    go_wp2_with fail
    go_returns
    exact ⟨r2, S3, A3, R3, bad3, rfl, HM2.out, HH.out, HD.out, HS2.out⟩
  · have e : k = 1 := by rw [← hkk]; simp [hx4, hy4]
    subst e
    unfold qx at hi
    (first | rw [if_pos hx4] at hi | rw [if_neg hx4] at hi)
    (first | rw [if_pos hy4] at hi | rw [if_neg hy4] at hi)
    unfold QC at hi
    have HI := Lib.hid hi
    clear hi hkk
    go_wp2_with fail
    (with_reducible refine HI.out.mono ?_)
    rintro e w3 ⟨r, S2, A2, R2, bad2, rfl, hm, hh, hd, hst⟩
    have HB2 := Lib.hid (HB.out.step HLT.out hd hst)
    have HB3 := Lib.hid (HB2.out.set HLT.out HK4.out r)
    have u0 := HB2.out.q.cellS (QC_get Q HK4.out)
    have f0 := HB2.out.q.frozen 1
    have hall : bad2 = 0 → ∀ j, j < 4 → Has S2 A2 t (upd Q 1 r j) (T j) := fun e => kids_upd (hh e) (fun j hj hne => by
      rw [HO.out j hj hne]; exact (HKH.out ((hm.ok e).1) j hj).st HB2.out.hd.ht hm.st)
    have c0 : (w3.setCell ⟨w1.heap.size, 1, none⟩ (.int .i64 r)).cell? ⟨w1.heap.size, 0, none⟩ = some (.int .i64 (Q 0)) := HB3.out.q.cellS (QC_get _ (k := 0) (by decide))
    have c1 : (w3.setCell ⟨w1.heap.size, 1, none⟩ (.int .i64 r)).cell? ⟨w1.heap.size, 1, none⟩ = some (.int .i64 r) := HB3.out.q.cellS (QC_get _ (k := 1) (by decide))
    have c2 : (w3.setCell ⟨w1.heap.size, 1, none⟩ (.int .i64 r)).cell? ⟨w1.heap.size, 2, none⟩ = some (.int .i64 (Q 2)) := HB3.out.q.cellS (QC_get _ (k := 2) (by decide))
    have c3 : (w3.setCell ⟨w1.heap.size, 1, none⟩ (.int .i64 r)).cell? ⟨w1.heap.size, 3, none⟩ = some (.int .i64 (Q 3)) := HB3.out.q.cellS (QC_get _ (k := 3) (by decide))
    have HJ : Hid (Calls Try.prog 50 #[.pointer (some ⟨hb, 0, none⟩), .agg #[.int .i64 (Q 0), .int .i64 r, .int .i64 (Q 2), .int .i64 (Q 3)]] (w3.setCell ⟨w1.heap.size, 1, none⟩ (.int .i64 r)) (HandPost (w3.setCell ⟨w1.heap.size, 1, none⟩ (.int .i64 r)) hb ty more p R2 S2 A2 t bad2 (.node (T 0) (T 1) (T 2) (T 3)))) :=
      hjoin_any _ hb ty more p R2 S2 A2 t bad2 HB3.out.hd _ _ _ _ _ _ _ _ n (fun e => ⟨hall e 0 (by decide), hall e 1 (by decide), hall e 2 (by decide), hall e 3 (by decide)⟩) ⟨HTL.out 0, HTL.out 1, HTL.out 2, HTL.out 3⟩ (by omega)
    have HM := Lib.hid hm
    clear hm hh hd hst HI hall
    go_wp2_with fail
    (with_reducible refine HJ.out.mono ?_)
    rintro e w4 ⟨r2, S3, A3, R3, bad3, rfl, hm, hh, hd, hst⟩
    have HM2 := Lib.hid (HM.out.next hm fun z hz => mem_nodes.2 (.inr (.inr (.inl hz))))
    have HH := Lib.hid hh
    have HD := Lib.hid hd
    have HS2 := Lib.hid (HB3.out.fin hst)
    clear hm hh hd hst c0 c1 c2 c3 u0 f0 HJ
    go_wp2_with fail
    go_returns
    exact ⟨r2, S3, A3, R3, bad3, rfl, HM2.out, HH.out, HD.out, HS2.out⟩
  · have e : k = 2 := by rw [← hkk]; simp [hx4, hy4]
    subst e
    unfold qx at hi
    (first | rw [if_pos hx4] at hi | rw [if_neg hx4] at hi)
    (first | rw [if_pos hy4] at hi | rw [if_neg hy4] at hi)
    unfold QC at hi
    have HI := Lib.hid hi
    clear hi hkk
    go_wp2_with fail
    (with_reducible refine HI.out.mono ?_)
    rintro e w3 ⟨r, S2, A2, R2, bad2, rfl, hm, hh, hd, hst⟩
    have HB2 := Lib.hid (HB.out.step HLT.out hd hst)
    have HB3 := Lib.hid (HB2.out.set HLT.out HK4.out r)
    have u0 := HB2.out.q.cellS (QC_get Q HK4.out)
    have f0 := HB2.out.q.frozen 2
    have hall : bad2 = 0 → ∀ j, j < 4 → Has S2 A2 t (upd Q 2 r j) (T j) := fun e => kids_upd (hh e) (fun j hj hne => by
      rw [HO.out j hj hne]; exact (HKH.out ((hm.ok e).1) j hj).st HB2.out.hd.ht hm.st)
    have c0 : (w3.setCell ⟨w1.heap.size, 2, none⟩ (.int .i64 r)).cell? ⟨w1.heap.size, 0, none⟩ = some (.int .i64 (Q 0)) := HB3.out.q.cellS (QC_get _ (k := 0) (by decide))
    have c1 : (w3.setCell ⟨w1.heap.size, 2, none⟩ (.int .i64 r)).cell? ⟨w1.heap.size, 1, none⟩ = some (.int .i64 (Q 1)) := HB3.out.q.cellS (QC_get _ (k := 1) (by decide))
    have c2 : (w3.setCell ⟨w1.heap.size, 2, none⟩ (.int .i64 r)).cell? ⟨w1.heap.size, 2, none⟩ = some (.int .i64 r) := HB3.out.q.cellS (QC_get _ (k := 2) (by decide))
    have c3 : (w3.setCell ⟨w1.heap.size, 2, none⟩ (.int .i64 r)).cell? ⟨w1.heap.size, 3, none⟩ = some (.int .i64 (Q 3)) := HB3.out.q.cellS (QC_get _ (k := 3) (by decide))
    have HJ : Hid (Calls Try.prog 50 #[.pointer (some ⟨hb, 0, none⟩), .agg #[.int .i64 (Q 0), .int .i64 (Q 1), .int .i64 r, .int .i64 (Q 3)]] (w3.setCell ⟨w1.heap.size, 2, none⟩ (.int .i64 r)) (HandPost (w3.setCell ⟨w1.heap.size, 2, none⟩ (.int .i64 r)) hb ty more p R2 S2 A2 t bad2 (.node (T 0) (T 1) (T 2) (T 3)))) :=
      hjoin_any _ hb ty more p R2 S2 A2 t bad2 HB3.out.hd _ _ _ _ _ _ _ _ n (fun e => ⟨hall e 0 (by decide), hall e 1 (by decide), hall e 2 (by decide), hall e 3 (by decide)⟩) ⟨HTL.out 0, HTL.out 1, HTL.out 2, HTL.out 3⟩ (by omega)
    have HM := Lib.hid hm
    clear hm hh hd hst HI hall
    go_wp2_with fail
    (with_reducible refine HJ.out.mono ?_)
    rintro e w4 ⟨r2, S3, A3, R3, bad3, rfl, hm, hh, hd, hst⟩
    have HM2 := Lib.hid (HM.out.next hm fun z hz => mem_nodes.2 (.inr (.inr (.inr (.inl hz)))))
    have HH := Lib.hid hh
    have HD := Lib.hid hd
    have HS2 := Lib.hid (HB3.out.fin hst)
    clear hm hh hd hst c0 c1 c2 c3 u0 f0 HJ
    go_wp2_with fail
    go_returns
    exact ⟨r2, S3, A3, R3, bad3, rfl, HM2.out, HH.out, HD.out, HS2.out⟩
  · have e : k = 0 := by rw [← hkk]; simp [hx4, hy4]
    subst e
    unfold qx at hi
    (first | rw [if_pos hx4] at hi | rw [if_neg hx4] at hi)
    (first | rw [if_pos hy4] at hi | rw [if_neg hy4] at hi)
    unfold QC at hi
    have HI := Lib.hid hi
    clear hi hkk
    go_wp2_with fail
    (with_reducible refine HI.out.mono ?_)
    rintro e w3 ⟨r, S2, A2, R2, bad2, rfl, hm, hh, hd, hst⟩
    have HB2 := Lib.hid (HB.out.step HLT.out hd hst)
    have HB3 := Lib.hid (HB2.out.set HLT.out HK4.out r)
    have u0 := HB2.out.q.cellS (QC_get Q HK4.out)
    have f0 := HB2.out.q.frozen 0
    have hall : bad2 = 0 → ∀ j, j < 4 → Has S2 A2 t (upd Q 0 r j) (T j) := fun e => kids_upd (hh e) (fun j hj hne => by
      rw [HO.out j hj hne]; exact (HKH.out ((hm.ok e).1) j hj).st HB2.out.hd.ht hm.st)
    have c0 : (w3.setCell ⟨w1.heap.size, 0, none⟩ (.int .i64 r)).cell? ⟨w1.heap.size, 0, none⟩ = some (.int .i64 r) := HB3.out.q.cellS (QC_get _ (k := 0) (by decide))
    have c1 : (w3.setCell ⟨w1.heap.size, 0, none⟩ (.int .i64 r)).cell? ⟨w1.heap.size, 1, none⟩ = some (.int .i64 (Q 1)) := HB3.out.q.cellS (QC_get _ (k := 1) (by decide))
    have c2 : (w3.setCell ⟨w1.heap.size, 0, none⟩ (.int .i64 r)).cell? ⟨w1.heap.size, 2, none⟩ = some (.int .i64 (Q 2)) := HB3.out.q.cellS (QC_get _ (k := 2) (by decide))
    have c3 : (w3.setCell ⟨w1.heap.size, 0, none⟩ (.int .i64 r)).cell? ⟨w1.heap.size, 3, none⟩ = some (.int .i64 (Q 3)) := HB3.out.q.cellS (QC_get _ (k := 3) (by decide))
    have HJ : Hid (Calls Try.prog 50 #[.pointer (some ⟨hb, 0, none⟩), .agg #[.int .i64 r, .int .i64 (Q 1), .int .i64 (Q 2), .int .i64 (Q 3)]] (w3.setCell ⟨w1.heap.size, 0, none⟩ (.int .i64 r)) (HandPost (w3.setCell ⟨w1.heap.size, 0, none⟩ (.int .i64 r)) hb ty more p R2 S2 A2 t bad2 (.node (T 0) (T 1) (T 2) (T 3)))) :=
      hjoin_any _ hb ty more p R2 S2 A2 t bad2 HB3.out.hd _ _ _ _ _ _ _ _ n (fun e => ⟨hall e 0 (by decide), hall e 1 (by decide), hall e 2 (by decide), hall e 3 (by decide)⟩) ⟨HTL.out 0, HTL.out 1, HTL.out 2, HTL.out 3⟩ (by omega)
    have HM := Lib.hid hm
    clear hm hh hd hst HI hall
    go_wp2_with fail
    (with_reducible refine HJ.out.mono ?_)
    rintro e w4 ⟨r2, S3, A3, R3, bad3, rfl, hm, hh, hd, hst⟩
    have HM2 := Lib.hid (HM.out.next hm fun z hz => mem_nodes.2 (.inr (.inl hz)))
    have HH := Lib.hid hh
    have HD := Lib.hid hd
    have HS2 := Lib.hid (HB3.out.fin hst)
    clear hm hh hd hst c0 c1 c2 c3 u0 f0 HJ
    go_wp2_with fail
    go_returns
    exact ⟨r2, S3, A3, R3, bad3, rfl, HM2.out, HH.out, HD.out, HS2.out⟩
theorem put_any (n : Nat) (hn : n ≤ 44) : PutOk n := by
  induction n with
  | zero => exact put_zero
  | succ n ih => exact put_more n hn (ih (by omega))
end Go.Proofs.Ytdbhddkkcchmmaa

namespace Go.Proofs.Ytdbhddkkcchmmaa
open Go.RowKit

abbrev WT := 74
/-- Nothing lives in a tree. -/
def blankT : Tree → Bool
  | .dead => true
  | .alive => false
  | .node a b c d => blankT a && blankT b && blankT c && blankT d
theorem blankT_of (P : Int → Int → Bool) : ∀ (n : Nat) (x y : Int), blankT (treeOf P n x y) = true ↔ ∀ a b, inB n x y a b → P a b = false
  | 0, x, y => by
    simp only [treeOf]
    constructor
    · intro h a b hb
      have h1 : a = x := by unfold inB at hb; simp at hb; omega
      have h2 : b = y := by unfold inB at hb; simp at hb; omega
      subst h1 h2
      cases hp : P a b
      · rfl
      · rw [hp] at h; simp [blankT] at h
    · intro h
      have := h x y (by unfold inB; simp; omega)
      rw [this]; rfl
  | n + 1, x, y => by
    simp only [treeOf, blankT, Bool.and_eq_true]
    rw [blankT_of P n, blankT_of P n, blankT_of P n, blankT_of P n]
    constructor
    · rintro ⟨⟨⟨h0, h1⟩, h2⟩, h3⟩ a b hb
      rcases inB.up.1 hb with k | k | k | k
      · exact h0 a b k
      · exact h1 a b k
      · exact h2 a b k
      · exact h3 a b k
    · intro h
      exact ⟨⟨⟨fun a b k => h a b (inB.up.2 (.inl k)), fun a b k => h a b (inB.up.2 (.inr (.inl k)))⟩, fun a b k => h a b (inB.up.2 (.inr (.inr (.inl k))))⟩, fun a b k => h a b (inB.up.2 (.inr (.inr (.inr k))))⟩
/-- A walker at work, and what it knows. -/
structure Wk (w : World) (wb mb : Nat) (p : Nat) (R : ArR) (S : ArS) (A : Nat → Abs) (t : Nat) (bad : Int) (K : List Int) (m : Int → Int) : Prop where
  hd : Hd w wb WT [.map (some mb)] p R S A t bad
  map : MapN w mb K m
  no : ¬ Own p R mb
  nodup : K.Nodup
  memo : ∀ x ∈ K, 2 ≤ x ∧ ∃ T, Has S A t x T ∧ m x = if blankT T then 1 else 2
  none : ∀ x, x ∉ K → m x = 0
/-- What a walker may have changed. -/
abbrev WX (wb mb : Nat) : Nat → Prop := fun b => b = wb ∨ b = mb
section
variable {w w1 w' : World} {wb mb p t : Nat} {R R1 R' : ArR} {S S' : ArS} {A A' : Nat → Abs} {bad bad' : Int} {K : List Int} {m : Int → Int}
theorem Wk.below (h : Wk w wb mb p R S A t bad K m) (hb : Below w.heap.size w w') : Wk w' wb mb p R S A t bad K m :=
  ⟨h.hd.below hb, h.map.mod (Mod.of_below_all hb) (fun h => h), h.no, h.nodup, h.memo, h.none⟩
theorem Wk.ne (h : Wk w wb mb p R S A t bad K m) : mb ≠ wb := h.map.ne h.hd.blk
/-- A hand's function does not touch what the walker knows. -/
theorem Wk.hand (h : Wk w wb mb p R S A t bad K m) (hd : Hd w1 wb WT [.map (some mb)] p R1 S' A' t bad') (hs : StepH (fun b => b = wb) p R R1 w w1) (hst : St t S A S' A') : Wk w1 wb mb p R1 S' A' t bad' K m :=
  ⟨hd, h.map.mod hs.mod fun ho => by
    rcases ho with ho | ho
    · exact h.no ho
    · exact h.ne ho, hs.not h.map.lt h.no, h.nodup, fun x hx => by
    obtain ⟨h2, T, hT, hm⟩ := h.memo x hx
    exact ⟨h2, T, hT.st h.hd.ht hst, hm⟩, h.none⟩
theorem Wk.few (h : Wk w wb mb p R S A t bad K m) : K.length < maxLen := by
  have hl := h.hd.inv.lenN
  have : K.length ≤ ((List.range 200002).map fun i : Nat => (i : Int)).length := List.Nodup.length_le_of_subset h.nodup fun x hx => by
    obtain ⟨h2, T, hT, _⟩ := h.memo x hx
    cases T with
    | dead => have h0 := hT.1; simp only [Den] at h0; omega
    | alive => have h0 := hT.1; simp only [Den] at h0; omega
    | node a b c d =>
      have h0 := hT.1
      simp only [Den] at h0
      obtain ⟨i, e, rfl, h3, _⟩ := h0
      have := (List.getElem?_eq_some_iff.1 h3).1
      exact List.mem_map.2 ⟨i, List.mem_range.2 (by omega), rfl⟩
  rw [List.length_map, List.length_range] at this
  unfold maxLen; omega
/-- What the walker is told is written down. -/
theorem Wk.put (h : Wk w wb mb p R S A t bad K m) {x v : Int} {T : Tree} (h2 : 2 ≤ x) (hT : Has S A t x T) (hv : v = if blankT T then 1 else 2) :
    ∃ w', (Instr.mapUpdate 72 (.map (some mb)) (.int .i64 x) (.int .i64 v)).run Try.prog w = .ok () w' ∧ Wk w' wb mb p R S A t bad (if x ∈ K then K else x :: K) (fun y => if y = x then v else m y) ∧ StepH (WX wb mb) p R R w w' := by
  obtain ⟨w', h3, h4, h5⟩ := h.map.put (x := x) (v := v) (hT.1.i64 h.hd.inv) h.few (by rw [hv]; split <;> exact ⟨by decide, by decide⟩)
  refine ⟨w', h3, ⟨h.hd.keep h5 (fun b hb e => h.no (e ▸ hb)) (fun e => h.ne e.symm), h4, h.no, ?_, fun y hy => ?_, fun y hy => ?_⟩, h5.mono fun b _ e => .inr (.inr e), fun _ h => .inl h⟩
  · split
    · exact h.nodup
    · exact List.nodup_cons.2 ⟨by assumption, h.nodup⟩
  · by_cases e : y = x
    · subst e
      exact ⟨h2, T, hT, by simp only [if_true]; exact hv⟩
    · have : y ∈ K := by
        split at hy
        · exact hy
        · rcases List.mem_cons.1 hy with q | q
          · exact absurd q e
          · exact q
      obtain ⟨g1, T', g2, g3⟩ := h.memo y this
      exact ⟨g1, T', g2, by simp only [e, if_false]; exact g3⟩
  · have e : y ≠ x := by
      rintro rfl
      apply hy
      split
      · assumption
      · exact List.mem_cons_self ..
    have : y ∉ K := fun q => hy (by
      split
      · exact q
      · exact List.mem_cons_of_mem _ q)
    simp only [e, if_false]; exact h.none y this
end
def WEPost (w : World) (wb mb p : Nat) (R : ArR) (S : ArS) (A : Nat → Abs) (t : Nat) (bad : Int) (T : Tree) (e : Ending) (w' : World) : Prop :=
  ∃ (K : List Int) (m : Int → Int), e = .returned (.bool (blankT T)) ∧ Wk w' wb mb p R S A t bad K m ∧ StepH (WX wb mb) p R R w w'
def WEOk (T : Tree) : Prop := ∀ (w : World) (wb mb p : Nat) (R : ArR) (S : ArS) (A : Nat → Abs) (t : Nat) (K : List Int) (m : Int → Int), Wk w wb mb p R S A t 0 K m → ∀ id : Int, Has S A t id T →
  Calls Try.prog 51 #[.pointer (some ⟨wb, 0, none⟩), .int .i64 id] w (WEPost w wb mb p R S A t 0 T)

set_option maxRecDepth 100000 in
set_option maxHeartbeats 3200000 in
/-- A number below 2, whatever went wrong. -/
theorem wempty_two (w : World) (wb mb p : Nat) (R : ArR) (S : ArS) (A : Nat → Abs) (t : Nat) (bad : Int) (K : List Int) (m : Int → Int) (h : Wk w wb mb p R S A t bad K m) (T : Tree) (id : Int) (hT : Den S id T) (h2 : id < 2) :
    Calls Try.prog 51 #[.pointer (some ⟨wb, 0, none⟩), .int .i64 id] w (WEPost w wb mb p R S A t bad T) := by
  have H := Lib.hid h
  have hb : (id == 0) = blankT T := by
    cases T with
    | dead => simp only [Den] at hT; subst hT; rfl
    | alive => simp only [Den] at hT; subst hT; rfl
    | node a b c d => 
      simp only [Den] at hT
      obtain ⟨i, e, rfl, _, h3, _⟩ := hT
      have := h.hd.inv.two h3; omega
  have HB := Lib.hid hb
  clear h hT hb
  go_enter Try.func51, Try.ntmps51
  go_wp2_with fail
  go_ret
  exact ⟨K, m, by rw [← HB.out]; rfl, H.out, StepH.refl _ p R w⟩
/-- What a walker writes down. -/
def nOf (b : Bool) : Int := if b then 1 else 2
/-- What is found of four squares, j of them seen. -/
def seenT (T : Nat → Tree) (j : Nat) : Bool := (List.range j).all fun k => blankT (T k)
theorem seenT_succ (T : Nat → Tree) (j : Nat) : seenT T (j + 1) = (seenT T j && blankT (T j)) := by
  unfold seenT; rw [List.range_succ, List.all_append]; simp
theorem seenT_four (T : Nat → Tree) : blankT (.node (T 0) (T 1) (T 2) (T 3)) = seenT T 4 := by
  simp [seenT, blankT, List.range_succ, Bool.and_assoc]

set_option maxRecDepth 100000 in
set_option maxHeartbeats 3200000 in
theorem wempty_node (T : Nat → Tree) (ih : ∀ j, j < 4 → WEOk (T j)) : WEOk (.node (T 0) (T 1) (T 2) (T 3)) := by
  intro w wb mb p R S A t K m h id hT
  have H := Lib.hid h
  have HT := Lib.hid hT
  have hi2 : 2 ≤ id := by
    have h0 := hT.1
    simp only [Den] at h0
    obtain ⟨i, e, rfl, _, h3, _⟩ := h0
    have := h.hd.inv.two h3; omega
  have h3 : w.cell? ⟨wb, 3, none⟩ = some (.map (some mb)) := h.hd.blk.cellS (i := 3) rfl
  have hib : decide (id < 2) = false := decide_eq_false (by omega)
  have hlk := h.map.look (hT.1.i64 h.hd.inv)
  by_cases hK : id ∈ K
  · have hm : m id = if blankT (.node (T 0) (T 1) (T 2) (T 3)) then 1 else 2 := by
      obtain ⟨_, T', g1, g2⟩ := h.memo id hK
      rw [g2, Den.fn h.hd.inv g1.1 hT.1]
    rw [hm] at hlk
    clear h hT hm hK
    cases hB : blankT (.node (T 0) (T 1) (T 2) (T 3))
    · rw [hB] at hlk
      rw [if_neg Bool.false_ne_true] at hlk
      have HB := Lib.hid hB
      clear hB
      go_enter Try.func51, Try.ntmps51
      go_wp2_with fail
      go_ret
      exact ⟨K, m, by rw [HB.out]; rfl, H.out, StepH.refl _ p R w⟩
    · rw [hB] at hlk
      rw [if_pos rfl] at hlk
      have HB := Lib.hid hB
      clear hB
      go_enter Try.func51, Try.ntmps51
      go_wp2_with fail
      go_ret
      exact ⟨K, m, by rw [HB.out]; rfl, H.out, StepH.refl _ p R w⟩
  · rw [h.none id hK] at hlk
    have HK := Lib.hid (hkids_any w wb WT [.map (some mb)] p R S A t 0 h.hd id _ _ _ _ (fun _ => hT))
    clear h hT hK
    go_enter Try.func51, Try.ntmps51
    go_wp2_with fail
    (with_reducible refine HK.out.mono ?_)
    rintro e w1 ⟨k0, k1, k2, k3, rfl, hkh, _, hd1, hs1⟩
    obtain ⟨g0, g1, g2, g3⟩ := hkh rfl
    have HQ : Hid (∀ j, j < 4 → Has S A t (qAt k0 k1 k2 k3 j) (T j)) := fun j hj => by
      rcases (by omega : j = 0 ∨ j = 1 ∨ j = 2 ∨ j = 3) with rfl | rfl | rfl | rfl <;> assumption
    have HW1 := Lib.hid (H.out.hand hd1 hs1 (St.refl H.out.hd.rel t))
    have HS1 : Hid (StepH (WX wb mb) p R R w w1) := hs1.wide fun b _ e => .inl e
    clear hkh hd1 hs1 g0 g1 g2 g3 HK h3 hlk
    go_wp2_with fail
    go_loopw [28, 6] (fun iv nv wx => ∃ (j : Nat) (K' : List Int) (m' : Int → Int), iv = .int .i64 j ∧ j ≤ 4 ∧ nv = .int .i64 (nOf (seenT T j)) ∧ Wk wx wb mb p R S A t 0 K' m' ∧ StepH (WX wb mb) p R R w wx) (fun iv _ _ => 4 - (intOf iv).toNat)
    case atStart => exact ⟨0, K, m, rfl, Nat.zero_le _, rfl, HW1.out, HS1.out⟩
    case round =>
      obtain ⟨j, K', m', rfl, hj, rfl, hW, hS⟩ := hrel
      have HW := Lib.hid hW
      have HS := Lib.hid hS
      clear hW hS
      by_cases hj4 : j < 4
      · have hq := fun w => idx4 k0 k1 k2 k3 j hj4 w
        have HI := Lib.hid (ih j hj4 wr wb mb p R S A t K' m' HW.out _ (HQ.out j hj4))
        have HJ4 := Lib.hid hj4
        have hlt : (j : Int) < 4 := by omega
        have hwi := wrap_nat' j (by unfold maxLen; omega)
        have HSE := Lib.hid (seenT_succ T j)
        clear hj4 hj
        cases hb : blankT (T j)
        · have HBJ := Lib.hid hb
          clear hb
          go_wp2_with fail
          (with_reducible refine HI.out.mono ?_)
          rintro e w3 ⟨K2, m2, rfl, hw3, hs3⟩
          rw [HBJ.out]
          have HW3 := Lib.hid hw3
          have HS3 := Lib.hid (HS.out.trans hs3)
          have HN : Hid (seenT T (j + 1) = false) := by show seenT T (j + 1) = false; rw [HSE.out, HBJ.out]; simp
          clear hw3 hs3 HI
          go_wp2_with fail
          go_roundw
          case rel => exact ⟨j + 1, K2, m2, by go_num, HJ4.out, by rw [HN.out]; rfl, HW3.out, HS3.out⟩
          case measure => simp [intOf]; have := HJ4.out; omega
        · have HBJ := Lib.hid hb
          clear hb
          go_wp2_with fail
          (with_reducible refine HI.out.mono ?_)
          rintro e w3 ⟨K2, m2, rfl, hw3, hs3⟩
          rw [HBJ.out]
          have HW3 := Lib.hid hw3
          have HS3 := Lib.hid (HS.out.trans hs3)
          have HN : Hid (seenT T (j + 1) = seenT T j) := by show seenT T (j + 1) = seenT T j; rw [HSE.out, HBJ.out]; simp
          clear hw3 hs3 HI
          go_wp2_with fail
          go_roundw
          case rel => exact ⟨j + 1, K2, m2, by go_num, HJ4.out, by rw [HN.out], HW3.out, HS3.out⟩
          case measure => simp [intOf]; have := HJ4.out; omega
      · have hj5 : j = 4 := by omega
        subst hj5
        obtain ⟨w4, hrun, hw4, hs4⟩ := HW.out.put hi2 (HT.out.st HW.out.hd.ht (St.refl HW.out.hd.rel t)) (v := nOf (seenT T 4)) (by rw [seenT_four]; rfl)
        have HW4 := Lib.hid hw4
        have HS4 := Lib.hid (HS.out.trans hs4)
        have h3' : wr.cell? ⟨wb, 3, none⟩ = some (.map (some mb)) := HW.out.hd.blk.cellS (i := 3) rfl
        have HSF := Lib.hid (seenT_four T)
        clear hj hj4 hw4 hs4
        cases hB : seenT T 4
        · rw [hB] at HSF hrun
          rw [show nOf false = 2 from rfl] at hrun ⊢
          go_wp2_with fail
          go_ret
          exact ⟨_, _, by rw [HSF.out]; rfl, HW4.out, HS4.out⟩
        · rw [hB] at HSF hrun
          rw [show nOf true = 1 from rfl] at hrun ⊢
          go_wp2_with fail
          go_ret
          exact ⟨_, _, by rw [HSF.out]; rfl, HW4.out, HS4.out⟩
theorem wempty_any : ∀ T : Tree, WEOk T
  | .dead => fun w wb mb p R S A t K m h id hT => wempty_two w wb mb p R S A t 0 K m h .dead id hT.1 (by have := hT.1; simp only [Den] at this; omega)
  | .alive => fun w wb mb p R S A t K m h id hT => wempty_two w wb mb p R S A t 0 K m h .alive id hT.1 (by have := hT.1; simp only [Den] at this; omega)
  | .node a b c d => by
    have h0 := wempty_any a
    have h1 := wempty_any b
    have h2 := wempty_any c
    have h3 := wempty_any d
    exact wempty_node (fun j => if j = 0 then a else if j = 1 then b else if j = 2 then c else d) fun j hj => by
      rcases (by omega : j = 0 ∨ j = 1 ∨ j = 2 ∨ j = 3) with rfl | rfl | rfl | rfl <;> assumption
end Go.Proofs.Ytdbhddkkcchmmaa
