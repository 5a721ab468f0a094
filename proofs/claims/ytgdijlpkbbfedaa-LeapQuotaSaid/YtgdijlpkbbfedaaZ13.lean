/- lifelodgekeep: begun. · lifelodgekeep: begun, as quad's laws need it. · quad: plain laws on roots that are made: how many things there are, that the same root has the same number. · quad: a set of cells with one cell more or less, as a tree. · Numbers as keys of maps. · quad: a walker's memory, map[int]int. · quad: four numbers beside a hand. · quad: a walker in memory; empty. -/
import Derived.Test.YtgdijlpkbbfedaaZ4
import Derived.Test.YtgdijlpkbbfedaaZ12
import Derived.Test.YtgdijlpkbbfedaaZ1

namespace Go.Proofs.Ytgdijlpkbbfedaa
open Go.RowKit

/-- What begun gives: an arena in which the four tenants have nothing. -/
def BegunPost (w : World) (e : Ending) (w' : World) : Prop :=
  ∃ (p : Nat) (R : ArR) (S : ArS), e = .returned (.tuple #[.pointer (some ⟨p, 0, none⟩), .bool true]) ∧ ArM w' p R S ∧ (∃ A, Rel S A ∧ ∀ t, t < 4 → A t = ⟨[], []⟩) ∧ S.room = 200000 ∧ S.live ≤ 1 ∧ (∀ t, t < 4 → S.added t = []) ∧ Below w.heap.size w w' ∧ ∀ b, Own p R b → w.heap.size ≤ b
/-- What the first square does. -/
theorem begun_join {r x : Int} {S' : ArS} (hj : JoinR (newA 200000 64) 63 1 0 0 1 r x S') : r = 2 ∧ x = 0 ∧ S'.count 63 = 1 ∧ (∃ A, Rel S' A ∧ ∀ t, t < 4 → A t = ⟨[], []⟩) ∧ S'.room = 200000 ∧ S'.live ≤ 1 ∧ ∀ t, t < 4 → S'.added t = [] := by
  have hA := newA_rel (room := 200000) (by decide) 64
  have d0 : Den (newA 200000 64) 1 .alive := by simp only [Den]
  have d1 : Den (newA 200000 64) 0 .dead := by simp only [Den]
  have four : ∀ j, j < 4 → j = 0 ∨ j = 1 ∨ j = 2 ∨ j = 3 := fun j hj => by omega
  have lv1 := d0.level hA.inv
  have lv0 := d1.level hA.inv
  have ow : ∀ j, j < 4 → ownsB (newA 200000 64) 63 (qAt 1 0 0 1 j) 0 = true := fun j hj => by
    rcases four j hj with rfl | rfl | rfl | rfl <;> rfl
  cases hj with
  | none j hj ho => rw [ow j hj] at ho; cases ho
  | level j _ hj hl =>
    exfalso
    simp only [Tree.lvl] at lv1 lv0
    rcases hl with hl | hl
    · rcases four j hj with rfl | rfl | rfl | rfl
      · exact hl rfl
      · exact hl (show levelOf _ 0 = _ by rw [lv0, lv1])
      · exact hl (show levelOf _ 0 = _ by rw [lv0, lv1])
      · exact hl rfl
    · omega
  | gives r x S' ho hl hlt hgr =>
    have hok : (⟨0, 1, 0, 0, 1⟩ : KeyA).ok := by
      refine ⟨⟨?_, ?_⟩, ⟨?_, ?_⟩, ⟨?_, ?_⟩, ⟨?_, ?_⟩, ⟨?_, ?_⟩⟩ <;> decide
    obtain ⟨g1, g2, g3, g4, g5, g6, g7⟩ := hA.give (t := 63) (by decide) (x := .sq .alive .dead .dead .alive) hok (by rw [lv1]; simp only [Tree.lvl]; decide) (show (0 : Int) < 200000 by decide) ⟨rfl, by rw [lv1], d0, d1, d1, d0⟩ trivial ⟨rfl, rfl, rfl, rfl⟩ hgr
    have hq : (newA 200000 64).quota 63 = 200000 := rfl
    have ha : aGive ⟨[], []⟩ ((newA 200000 64).quota 63) (.sq .alive .dead .dead .alive) = (0, ⟨[.sq .alive .dead .dead .alive], [.sq .alive .dead .dead .alive]⟩) := by
      rw [hq]; unfold aGive; rw [if_neg (by simp), if_neg (by simp)]; rfl
    have g1 : x = (aGive ⟨[], []⟩ ((newA 200000 64).quota 63) (.sq .alive .dead .dead .alive)).1 := g1
    rw [ha] at g1
    have g2 : Rel S' (upd (fun _ => ⟨[], []⟩) 63 (aGive ⟨[], []⟩ ((newA 200000 64).quota 63) (.sq .alive .dead .dead .alive)).2) := g2
    rw [ha] at g2
    refine ⟨?_, g1, ?_, ⟨_, g2, fun t ht => by rw [upd_ne _ _ (by omega)]⟩, g6, by have : (newA 200000 64).live = 0 := rfl; omega, fun t ht => ?_⟩
    · cases hgr with
      | has i e hi => cases hi
      | much _ hq => cases hq
      | joins i e hi => cases hi
      | full S0 n _ _ hr => exact absurd hr (by decide)
      | makes S0 S1 i _ _ hs hr ht2 =>
        rcases hs with ⟨_, rfl⟩ | ⟨hr2, _⟩
        · rcases ht2 with ⟨fr, hp, _⟩ | ⟨_, hi, _⟩
          · have := hp.length_eq; simp [newA] at this
          · rw [hi]; rfl
        · exact absurd hr2 (by decide)
    · rw [g2.count (by decide), upd_same]; rfl
    · cases hgr with
      | has i e hi => cases hi
      | much _ hq => cases hq
      | joins i e hi => cases hi
      | full S0 n _ _ hr => exact absurd hr (by decide)
      | makes S0 S1 i _ _ hs hr ht2 =>
        rcases hs with ⟨_, rfl⟩ | ⟨hr2, _⟩
        · have hk := ht2.keeps
          unfold gainS
          split
          · show upd (newS S1 i _ _ _).added 63 _ t = []
            rw [upd_ne _ _ (by omega)]
            show S1.added t = []
            rw [hk.2.2.2.2.2.1]; rfl
          · show S1.added t = []
            rw [hk.2.2.2.2.2.1]; rfl
        · exact absurd hr2 (by decide)

set_option maxRecDepth 100000 in
set_option maxHeartbeats 3200000 in
theorem begun_any (w : World) : Calls Try.prog 11 #[] w (BegunPost w) := by
  go_enter Try.func11, Try.ntmps11
  go_wp2_with fail
  (with_reducible refine (new_any w 200000 (by decide)).mono ?_)
  rintro e w1 ⟨p, R, rfl, hA, hB, hO⟩
  have HA := Lib.hid hA
  have HB := Lib.hid hB
  have HO := Lib.hid hO
  clear hA hB hO
  go_wp2_with fail
  have hI := newA_inv (room := 200000) (by decide) 64
  have hjn : Calls Try.prog 20 #[.pointer (some ⟨p, 0, none⟩), .int .i64 63, .agg #[.int .i64 1, .int .i64 0, .int .i64 0, .int .i64 1]] w1 (JoinPost w1 p R (newA 200000 64) 63 1 0 0 1) := join_any w1 p R (newA 200000 64) HA.out hI rfl 63 (by decide) (Nat.zero_le _) 1 0 0 1
  (with_reducible refine hjn.mono ?_)
  rintro e w2 ⟨r, x, S2, R2, rfl, hj, hA2, hS2⟩
  obtain ⟨rfl, rfl, hc, hrel, hro, hli, had⟩ := begun_join hj
  have HA2 := Lib.hid hA2
  have HC := Lib.hid hc
  have HREL := Lib.hid hrel
  have HRO := Lib.hid hro
  have HLI := Lib.hid hli
  have HAD := Lib.hid had
  have HB2 : Hid (Below w.heap.size w w2) := HB.out.trans (hS2.mod.below HB.out.size fun b hb ho => absurd (HO.out b ho) (by omega))
  have HO2 : Hid (∀ b, Own p R2 b → w.heap.size ≤ b) := fun b hb => by
    rcases hS2.own b hb with h1 | h1
    · exact HO.out b h1
    · exact Nat.le_trans HB.out.size h1
  clear hI hjn hj hA2 hS2 hc hrel hro hli had
  go_wp2_with fail
  have hcn : Calls Try.prog 15 #[.pointer (some ⟨p, 0, none⟩), .int .i64 63] w2 fun e w' => e = .returned (.int .i64 (S2.count 63)) ∧ w2 = w' := count_any w2 p R2 S2 HA2.out 63 (by decide)
  (with_reducible refine hcn.mono ?_)
  rintro e wq ⟨rfl, rfl⟩
  rw [HC.out]
  go_wp2_with fail
  go_returns
  exact ⟨p, R2, S2, rfl, HA2.out, HREL.out, HRO.out, HLI.out, HAD.out, HB2.out, HO2.out⟩
end Go.Proofs.Ytgdijlpkbbfedaa

namespace Go.Proofs.Ytgdijlpkbbfedaa
open Go.RowKit

/-- The square that begun makes. -/
def firstT : Thing := .sq .alive .dead .dead .alive
def BegunQ (w : World) (e : Ending) (w' : World) : Prop :=
  ∃ (p : Nat) (R : ArR) (S : ArS) (A : Nat → Abs), e = .returned (.tuple #[.pointer (some ⟨p, 0, none⟩), .bool true]) ∧ Ar w' p R S A ∧ (∀ t, t ≠ 63 → A t = ⟨[], []⟩) ∧ S.room = 200000 ∧ (∀ t, t < 64 → S.quota t = 200000) ∧ Within S [firstT] ∧ Below w.heap.size w w' ∧ ∀ b, Own p R b → w.heap.size ≤ b
theorem begunQ_join {r x : Int} {S' : ArS} (hj : JoinR (newA 200000 64) 63 1 0 0 1 r x S') : ∃ A, Rel S' A ∧ (∀ t, t ≠ 63 → A t = ⟨[], []⟩) ∧ S'.room = 200000 ∧ (∀ t, t < 64 → S'.quota t = 200000) ∧ Within S' [firstT] ∧ ∀ u, u < 64 → ((S'.added u).length : Int) ≤ S'.count u := by
  have hA := newA_rel (room := 200000) (by decide) 64
  have d0 : Den (newA 200000 64) 1 .alive := by simp only [Den]
  have d1 : Den (newA 200000 64) 0 .dead := by simp only [Den]
  obtain ⟨A', hm, _⟩ := hA.joinG (t := 63) (n := 0) (by decide) d0 d1 d1 d0 rfl rfl rfl rfl rfl rfl rfl rfl (by decide) hj
  have hq : ∀ t, t < 64 → (newA 200000 64).quota t = 200000 := fun t ht => by simp [newA, ht]
  obtain ⟨_, hw, _⟩ := hm.enough [firstT] (fun i x hd => by
    obtain ⟨e, _, hx⟩ := hd.ent
    cases hx) (fun x hx => by simpa [nodes, firstT] using hx) (by show (1 : Int) < 200000; decide) (by rw [hq 63 (by decide)]; show (1 : Int) < 200000; decide)
  exact ⟨A', hm.st.rel, fun t ht => hm.st.oth t ht, hm.st.room, fun t ht => by rw [hm.st.quota]; exact hq t ht, hw, hm.st.add fun u _ => Int.le_refl _⟩

set_option maxRecDepth 100000 in
set_option maxHeartbeats 3200000 in
theorem begunQ_any (w : World) : Calls Try.prog 11 #[] w (BegunQ w) := by
  go_enter Try.func11, Try.ntmps11
  go_wp2_with fail
  (with_reducible refine (new_any w 200000 (by decide)).mono ?_)
  rintro e w1 ⟨p, R, rfl, hA, hB, hO⟩
  have HA := Lib.hid hA
  have HB := Lib.hid hB
  have HO := Lib.hid hO
  clear hA hB hO
  go_wp2_with fail
  have hI := newA_inv (room := 200000) (by decide) 64
  have hjn : Calls Try.prog 20 #[.pointer (some ⟨p, 0, none⟩), .int .i64 63, .agg #[.int .i64 1, .int .i64 0, .int .i64 0, .int .i64 1]] w1 (JoinPost w1 p R (newA 200000 64) 63 1 0 0 1) := join_any w1 p R (newA 200000 64) HA.out hI rfl 63 (by decide) (Nat.zero_le _) 1 0 0 1
  (with_reducible refine hjn.mono ?_)
  rintro e w2 ⟨r, x, S2, R2, rfl, hj, hA2, hS2⟩
  obtain ⟨A2, g1, g2, g3, g4, g5, g6⟩ := begunQ_join hj
  obtain ⟨rfl, rfl, hc, _⟩ := begun_join hj
  have HA2 := Lib.hid hA2
  have HC := Lib.hid hc
  have HG := Lib.hid (And.intro (Ar.mk hA2 g1 g6) (And.intro g2 (And.intro g3 (And.intro g4 g5))))
  have HB2 : Hid (Below w.heap.size w w2) := HB.out.trans (hS2.mod.below HB.out.size fun b hb ho => absurd (HO.out b ho) (by omega))
  have HO2 : Hid (∀ b, Own p R2 b → w.heap.size ≤ b) := fun b hb => by
    rcases hS2.own b hb with h1 | h1
    · exact HO.out b h1
    · exact Nat.le_trans HB.out.size h1
  clear hI hjn hj hA2 hS2 hc g1 g2 g3 g4 g5 g6
  go_wp2_with fail
  have hcn : Calls Try.prog 15 #[.pointer (some ⟨p, 0, none⟩), .int .i64 63] w2 fun e w' => e = .returned (.int .i64 (S2.count 63)) ∧ w2 = w' := count_any w2 p R2 S2 HA2.out 63 (by decide)
  (with_reducible refine hcn.mono ?_)
  rintro e wq ⟨rfl, rfl⟩
  rw [HC.out]
  go_wp2_with fail
  go_returns
  exact ⟨p, R2, S2, A2, rfl, HG.out.1, HG.out.2.1, HG.out.2.2.1, HG.out.2.2.2.1, HG.out.2.2.2.2, HB2.out, HO2.out⟩
end Go.Proofs.Ytgdijlpkbbfedaa

namespace Go.Proofs.Ytgdijlpkbbfedaa
open Go.RowKit

theorem nodup_len {α : Type} {l l' : List α} (h : l.Nodup) (h' : l'.Nodup) (hm : ∀ x, x ∈ l ↔ x ∈ l') : l.length = l'.length :=
  Nat.le_antisymm (List.Nodup.length_le_of_subset h fun x hx => (hm x).1 hx) (List.Nodup.length_le_of_subset h' fun x hx => (hm x).2 hx)
theorem Den.nodes {S : ArS} : ∀ {T : Tree} {id : Int}, Den S id T → ∀ x ∈ nodes T, ∃ i : Nat, DenT S i x
  | .dead, _, _, x, hx => by simp [Go.Proofs.Ytgdijlpkbbfedaa.nodes] at hx
  | .alive, _, _, x, hx => by simp [Go.Proofs.Ytgdijlpkbbfedaa.nodes] at hx
  | .node a b c d, id, hd, x, hx => by
    have hd2 := hd
    simp only [Den] at hd
    obtain ⟨i, e, rfl, h4, h5, h6, h7, g0, g1, g2, g3⟩ := hd
    rcases mem_nodes.1 hx with rfl | k | k | k | k
    · exact ⟨i, hd2⟩
    · exact Den.nodes g0 x k
    · exact Den.nodes g1 x k
    · exact Den.nodes g2 x k
    · exact Den.nodes g3 x k
section
variable {S S1 S2 : ArS} {A A1 A2 : Nat → Abs} {t u : Nat} {T : Tree} {p q : Int}
/-- The things of a root of few cells. -/
theorem root_few (l : List (Int × Int)) {k : Nat} (hk : k ≤ 43) : ∃ V : List Thing, (∀ x ∈ nodes (rootT (setOfL l) k), x ∈ V) ∧ V.length ≤ 44 + l.length * 44 := by
  obtain ⟨V, h1, h2⟩ := nodes_few l (k + 1) (-2 ^ k) (-2 ^ k)
  refine ⟨blanks (k + 1) ++ V, h1, ?_⟩
  rw [List.length_append, blanks_length]
  have := Nat.mul_le_mul (cntB_le l (k + 1) (-2 ^ k) (-2 ^ k)) (show k + 1 ≤ 44 by omega)
  omega
/-- A second tenant makes nothing new. -/
theorem made_again (h1 : Rel S1 A1) (_ht : u < 64) (hm : Made u (nodes T) S1 A1 0 S2 A2 0) (hp : Den S1 p T) (hr : S1.live < S1.room) (hq : S1.live < S1.quota u) : S2.live = S1.live ∧ Stays (fun _ => True) S1 S2 := by
  obtain ⟨V, v1, v2, v3, v4⟩ := h1.things
  obtain ⟨_, w2, w3⟩ := hm.enough V v2 (fun x hx => by obtain ⟨i, hi⟩ := hp.nodes x hx; exact v2 i x hi) (by omega) (by omega)
  obtain ⟨V', v1', v2', v3', v4'⟩ := hm.st.rel.things
  have g1 := hm.st.rel.live_le w2
  have g2 := List.Nodup.length_le_of_subset v1 (l₂ := V') fun x hx => by obtain ⟨i, hi⟩ := v4 x hx; exact v2' i x (DenT.stays w3 hi)
  exact ⟨by omega, w3⟩
theorem made_count (hn : (A t).have_ = []) (hm : Made t (nodes T) S A 0 S1 A1 0) : ∀ x, x ∈ (A1 t).have_ ↔ x ∈ nodes T := fun x => by
  rw [(hm.ok rfl).2.1, hn]; simp
/-- What QuadShared asks. -/
theorem shared_law (ht : t < 62) (hu : u < 62) (hn : ∀ t, t ≠ 63 → A t = ⟨[], []⟩) (hm1 : Made t (nodes T) S A 0 S1 A1 0) (hd1 : Has S1 A1 t p T) (hm2 : Made u (nodes T) S1 A1 0 S2 A2 0) (hd2 : Has S2 A2 u q T) (hr : S1.live < S1.room) (hq : S1.live < S1.quota u) :
    p = q ∧ S2.live = S1.live ∧ S2.count t = S1.count t ∧ S2.count u = S1.count t := by
  obtain ⟨g1, g2⟩ := made_again hm1.st.rel (by omega) hm2 hd1.1 hr hq
  have c1 := made_count (by rw [hn t (by omega)]) hm1
  have n1 := (hm1.st.rel.ok t (by omega)).nodup
  refine ⟨Den.inj (Den.stays g2 hd1.1) hd2.1, g1, ?_, ?_⟩
  · rw [hm2.st.rel.count (by omega), hm1.st.rel.count (by omega)]
    have : (A2 t).have_.length = (A1 t).have_.length := by
      by_cases e : t = u
      · subst e
        refine nodup_len (hm2.st.rel.ok t (by omega)).nodup n1 fun x => ?_
        rw [(hm2.ok rfl).2.1, c1]; simp
      · rw [hm2.st.oth t e]
    omega
  · rw [hm2.st.rel.count (by omega), hm1.st.rel.count (by omega)]
    have : (A2 u).have_.length = (A1 t).have_.length := by
      refine nodup_len (hm2.st.rel.ok u (by omega)).nodup n1 fun x => ?_
      rw [(hm2.ok rfl).2.1, c1]
      by_cases e : u = t
      · subst e; rw [c1]; simp
      · rw [hm1.st.oth u e, hn u (by omega)]; simp
    omega
/-- Making a root of few cells in an arena that has few things. -/
theorem made_fine {l : List (Int × Int)} {k : Nat} {bad : Int} {V : List Thing} (hk : k ≤ 43) (hV : Within S V) (hl : V.length + (44 + l.length * 44) < 200000) (hr : S.room = 200000) (hq : S.quota t = 200000) (hm : Made t (nodes (rootT (setOfL l) k)) S A 0 S1 A1 bad) :
    bad = 0 ∧ (∃ V', Within S1 V' ∧ V'.length ≤ V.length + (44 + l.length * 44)) ∧ Stays (fun _ => True) S S1 := by
  obtain ⟨V0, h1, h2⟩ := root_few l hk
  obtain ⟨g1, g2, g3⟩ := hm.enough (V ++ V0) (fun i x hd => List.mem_append_left _ (hV i x hd)) (fun x hx => List.mem_append_right _ (h1 x hx)) (by rw [List.length_append, hr]; omega) (by rw [List.length_append, hq]; omega)
  exact ⟨g1, ⟨_, g2, by rw [List.length_append]; omega⟩, g3⟩
end
end Go.Proofs.Ytgdijlpkbbfedaa

namespace Go.Proofs.Ytgdijlpkbbfedaa
open Go.RowKit

/-- The set with one cell alive or dead. -/
def setP (P : Int → Int → Bool) (a b : Int) (v : Bool) : Int → Int → Bool := fun c d => if c = a ∧ d = b then v else P c d
theorem setP_ne {P : Int → Int → Bool} {a b c d : Int} {v : Bool} (h : ¬ (c = a ∧ d = b)) : setP P a b v c d = P c d := by unfold setP; rw [if_neg h]
theorem setP_eq {P : Int → Int → Bool} {a b : Int} {v : Bool} : setP P a b v a b = v := by unfold setP; rw [if_pos ⟨rfl, rfl⟩]
/-- A part of a square. -/
def subT (P : Int → Int → Bool) (n : Nat) (X Y : Int) (k : Nat) : Tree := treeOf P n (gx (2 ^ n) X k) (gy (2 ^ n) Y k)
theorem subT_all (P : Int → Int → Bool) (n : Nat) (X Y : Int) : treeOf P (n + 1) X Y = .node (subT P n X Y 0) (subT P n X Y 1) (subT P n X Y 2) (subT P n X Y 3) := by
  simp [treeOf, subT, gx, gy]
theorem subT_lvl (P : Int → Int → Bool) (n : Nat) (X Y : Int) (k : Nat) : (subT P n X Y k).lvl = n := treeOf_lvl _ _ _ _
/-- The part in which a place lies. -/
def qk (n : Nat) (x y : Int) : Nat := (if 2 ^ n ≤ x then 1 else 0) + (if 2 ^ n ≤ y then 2 else 0)
def qx (n : Nat) (x : Int) : Int := if 2 ^ n ≤ x then x - 2 ^ n else x
theorem qk_lt (n : Nat) (x y : Int) : qk n x y < 4 := by unfold qk; split <;> split <;> omega
theorem qx_bd {n : Nat} {x : Int} (h : 0 ≤ x ∧ x < 2 ^ (n + 1)) : 0 ≤ qx n x ∧ qx n x < 2 ^ n := by
  rw [Int.pow_succ] at h
  unfold qx; split <;> omega
theorem gx_qx (n : Nat) (X x y : Int) : gx (2 ^ n) X (qk n x y) + qx n x = X + x := by
  unfold gx qk qx
  by_cases h1 : 2 ^ n ≤ x <;> by_cases h2 : 2 ^ n ≤ y <;> simp [h1, h2] <;> omega
theorem gy_qx (n : Nat) (Y x y : Int) : gy (2 ^ n) Y (qk n x y) + qx n y = Y + y := by
  unfold gy qk qx
  by_cases h1 : 2 ^ n ≤ x <;> by_cases h2 : 2 ^ n ≤ y <;> simp [h1, h2] <;> omega
theorem subT_other {P : Int → Int → Bool} {n : Nat} {X Y x y : Int} {v : Bool} {k : Nat} (hx : 0 ≤ x ∧ x < 2 ^ (n + 1)) (hy : 0 ≤ y ∧ y < 2 ^ (n + 1)) (hk : k < 4) (hne : k ≠ qk n x y) : subT (setP P (X + x) (Y + y) v) n X Y k = subT P n X Y k :=
  treeOf_congr fun a b hb => setP_ne fun e => hne (by
    have hp := pow_pos2 n
    rw [Int.pow_succ] at hx hy
    obtain ⟨rfl, rfl⟩ := e
    unfold inB gx gy at hb
    unfold qk
    rcases (by omega : k = 0 ∨ k = 1 ∨ k = 2 ∨ k = 3) with rfl | rfl | rfl | rfl
    · simp at hb; rw [if_neg (by omega), if_neg (by omega)]
    · simp at hb; rw [if_pos (by omega), if_neg (by omega)]
    · simp at hb; rw [if_neg (by omega), if_pos (by omega)]
    · simp at hb; rw [if_pos (by omega), if_pos (by omega)])
theorem subT_here {P : Int → Int → Bool} {n : Nat} {X Y x y : Int} {v : Bool} : subT (setP P (X + x) (Y + y) v) n X Y (qk n x y) = treeOf (setP P (gx (2 ^ n) X (qk n x y) + qx n x) (gy (2 ^ n) Y (qk n x y) + qx n y) v) n (gx (2 ^ n) X (qk n x y)) (gy (2 ^ n) Y (qk n x y)) := by
  rw [gx_qx, gy_qx]; rfl
/-- A cell more or less makes few new squares. -/
theorem put_few (P : Int → Int → Bool) (v : Bool) : ∀ (n : Nat) (X Y x y : Int), 0 ≤ x ∧ x < 2 ^ n → 0 ≤ y ∧ y < 2 ^ n → ∃ V : List Thing, V.length ≤ n ∧ ∀ z ∈ nodes (treeOf (setP P (X + x) (Y + y) v) n X Y), z ∈ nodes (treeOf P n X Y) ∨ z ∈ V
  | 0, X, Y, x, y, _, _ => ⟨[], Nat.le_refl _, fun z hz => by
    simp only [treeOf] at hz
    split at hz <;> simp [nodes] at hz⟩
  | n + 1, X, Y, x, y, hx, hy => by
    obtain ⟨V, h1, h2⟩ := put_few P v n (gx (2 ^ n) X (qk n x y)) (gy (2 ^ n) Y (qk n x y)) (qx n x) (qx n y) (qx_bd hx) (qx_bd hy)
    refine ⟨.sq (subT (setP P (X + x) (Y + y) v) n X Y 0) (subT (setP P (X + x) (Y + y) v) n X Y 1) (subT (setP P (X + x) (Y + y) v) n X Y 2) (subT (setP P (X + x) (Y + y) v) n X Y 3) :: V, by simp; omega, fun z hz => ?_⟩
    rw [subT_all, mem_nodes] at hz
    rw [subT_all, mem_nodes, List.mem_cons]
    have key : ∀ k, k < 4 → z ∈ nodes (subT (setP P (X + x) (Y + y) v) n X Y k) → z ∈ nodes (subT P n X Y k) ∨ z ∈ V := fun k hk hz => by
      by_cases e : k = qk n x y
      · subst e
        rw [subT_here] at hz
        exact h2 z hz
      · rw [subT_other hx hy hk e] at hz; exact .inl hz
    rcases hz with h | h | h | h | h
    · exact .inr (.inl h)
    · rcases key 0 (by decide) h with q | q
      · exact .inl (.inr (.inl q))
      · exact .inr (.inr q)
    · rcases key 1 (by decide) h with q | q
      · exact .inl (.inr (.inr (.inl q)))
      · exact .inr (.inr q)
    · rcases key 2 (by decide) h with q | q
      · exact .inl (.inr (.inr (.inr (.inl q))))
      · exact .inr (.inr q)
    · rcases key 3 (by decide) h with q | q
      · exact .inl (.inr (.inr (.inr (.inr q))))
      · exact .inr (.inr q)
/-- How many cells live in a square. -/
def cntT : Tree → Nat
  | .dead => 0
  | .alive => 1
  | .node a b c d => cntT a + cntT b + cntT c + cntT d
theorem cnt_set {P : Int → Int → Bool} : ∀ (n : Nat) (X Y x y : Int), 0 ≤ x ∧ x < 2 ^ n → 0 ≤ y ∧ y < 2 ^ n → cntT (treeOf (setP P (X + x) (Y + y) true) n X Y) = cntT (treeOf (setP P (X + x) (Y + y) false) n X Y) + 1
  | 0, X, Y, x, y, hx, hy => by
    have h1 : x = 0 := by simp at hx; omega
    have h2 : y = 0 := by simp at hy; omega
    subst h1 h2
    simp [treeOf, setP, cntT]
  | n + 1, X, Y, x, y, hx, hy => by
    have ih := cnt_set n (gx (2 ^ n) X (qk n x y)) (gy (2 ^ n) Y (qk n x y)) (qx n x) (qx n y) (P := P) (qx_bd hx) (qx_bd hy)
    have hh : ∀ v, subT (setP P (X + x) (Y + y) v) n X Y (qk n x y) = treeOf (setP P (gx (2 ^ n) X (qk n x y) + qx n x) (gy (2 ^ n) Y (qk n x y) + qx n y) v) n (gx (2 ^ n) X (qk n x y)) (gy (2 ^ n) Y (qk n x y)) := fun v => subT_here
    rw [← hh, ← hh] at ih
    have ho : ∀ k, k < 4 → k ≠ qk n x y → cntT (subT (setP P (X + x) (Y + y) true) n X Y k) = cntT (subT (setP P (X + x) (Y + y) false) n X Y k) := fun k hk hne => by rw [subT_other hx hy hk hne, subT_other hx hy hk hne]
    rw [subT_all, subT_all]
    simp only [cntT]
    have hlt := qk_lt n x y
    rcases (by omega : qk n x y = 0 ∨ qk n x y = 1 ∨ qk n x y = 2 ∨ qk n x y = 3) with e | e | e | e
    · rw [e] at ih
      have := ho 1 (by decide) (by omega); have := ho 2 (by decide) (by omega); have := ho 3 (by decide) (by omega); omega
    · rw [e] at ih
      have := ho 0 (by decide) (by omega); have := ho 2 (by decide) (by omega); have := ho 3 (by decide) (by omega); omega
    · rw [e] at ih
      have := ho 0 (by decide) (by omega); have := ho 1 (by decide) (by omega); have := ho 3 (by decide) (by omega); omega
    · rw [e] at ih
      have := ho 0 (by decide) (by omega); have := ho 1 (by decide) (by omega); have := ho 2 (by decide) (by omega); omega
end Go.Proofs.Ytgdijlpkbbfedaa

namespace Go.Proofs.Ytgdijlpkbbfedaa
open Go.RowKit Go.ChangeMaps Go.WideElems Go.WideMaps

theorem Try.lawIntK : Maps.Keyed Try.prog 3 := Maps.int_keyed Try.underlying3
theorem keyOf_i {x : Int} (h : i64r x) : keyOf Try.prog 3 (.int .i64 x) = some (.int .i64 x) := Maps.keyOf_int_mk Try.underlying3 h.wf
/-- How many entries a block that is a map has. -/
def mapSize (w : World) (b : Nat) : Nat := match w.heap[b]? with | some (.map es _) => es.size | _ => 0
end Go.Proofs.Ytgdijlpkbbfedaa

namespace Go.Proofs.Ytgdijlpkbbfedaa
open Go.RowKit Go.ChangeMaps Go.WideElems Go.WideMaps

/-- Block b is a map of just these keys; m is what is read. -/
def MapN (w : World) (b : Nat) (K : List Int) (m : Int → Int) : Prop :=
  ∃ D : DataW Unit, w.ownsMap Try.prog 3 (plainElem Try.prog 3) b K.length D ∧ Maps.size D = K.length ∧ ∀ x, i64r x → Maps.has D (.int .i64 x) = decide (x ∈ K) ∧ D.atKey (.int .i64 x) (.lit (.int .i64 0)) = .lit (.int .i64 (m x))
section
variable {w w' : World} {b : Nat} {K : List Int} {m : Int → Int}
theorem MapN.of_block (h : MapN w b K m) (e : w'.heap[b]? = w.heap[b]?) : MapN w' b K m := by obtain ⟨D, h1, h2⟩ := h; exact ⟨D, ownsMap_blockK h1 e, h2⟩
theorem MapN.lt (h : MapN w b K m) : b < w.heap.size := by obtain ⟨D, h1, _⟩ := h; exact h1.lt
theorem MapN.made (w : World) : MapN (w.alloc (.map #[] 0)) w.heap.size [] (fun _ => 0) := ⟨_, World.ownsMap_made w _ _ _, rfl, fun x _ => ⟨by simp [Maps.has], rfl⟩⟩
theorem MapN.mod {T : Nat → Prop} (h : MapN w b K m) (hm : Mod T w w') (hT : ¬ T b) : MapN w' b K m := h.of_block (hm.block _ h.lt hT)
theorem MapN.ne (h : MapN w b K m) {p t : Nat} {cs : Array Value} (hp : Blk w p t cs) : b ≠ p := by
  rintro rfl
  obtain ⟨D, ⟨es, clock, hb, _⟩, _⟩ := h
  unfold Blk at hp
  rw [hb] at hp
  cases hp
set_option maxRecDepth 100000 in
/-- 'm[k]'. -/
theorem MapN.look (h : MapN w b K m) {x : Int} (hx : i64r x) : (Instr.lookup 74 (.map (some b)) (.int .i64 x) false).run Try.prog w = .ok (.int .i64 (m x)) w := by
  obtain ⟨D, hown, _, h1⟩ := h
  obtain ⟨c, hrun, hat, _⟩ := hown.lookup_int Try.lawIntK Try.underlying74 Try.underlying3 (Try.zeroIntK w) (keyOf_i hx)
  rw [(h1 x hx).2] at hat
  injection hat with hat
  injection hat with _ hat
  rw [hrun, hat]
set_option maxRecDepth 100000 in
/-- 'v, ok := m[k]'. -/
theorem MapN.look_ok (h : MapN w b K m) {x : Int} (hx : i64r x) : (Instr.lookup 74 (.map (some b)) (.int .i64 x) true).run Try.prog w = .ok (.tuple #[.int .i64 (m x), .bool (decide (x ∈ K))]) w := by
  obtain ⟨D, hown, _, h1⟩ := h
  obtain ⟨v, ps, hrun, hv⟩ := hown.look_ok Try.lawIntK Try.underlying74 (Try.zeroIntK w) (plainElem_int Try.underlying3 (by decide)) (keyOf_i hx)
  obtain ⟨y, rfl, hy, _⟩ := plainElem_int_inv Try.underlying3 hv
  simp only [Prod.mk.injEq] at hy
  have hat := hy.1
  rw [(h1 x hx).2] at hat
  injection hat with hat
  injection hat with _ hat
  rw [hrun, (h1 x hx).1, hat]
set_option maxRecDepth 100000 in
/-- 'm[k] = v'. -/
theorem MapN.put (h : MapN w b K m) {x v : Int} (hx : i64r x) (hc : K.length < maxLen) (hv : i64r v) :
    ∃ w', (Instr.mapUpdate 74 (.map (some b)) (.int .i64 x) (.int .i64 v)).run Try.prog w = .ok () w' ∧ MapN w' b (if x ∈ K then K else x :: K) (fun y => if y = x then v else m y) ∧ Mod (fun q => q = b) w w' := by
  obtain ⟨D, hown, hs, h1⟩ := h
  obtain ⟨w', u1, u2, u3⟩ := hown.store Try.lawIntK Try.underlying74 hc (keyOf_i hx) (plainElem_int Try.underlying3 hv.wf)
  have hsz : Maps.size (D.put (.int .i64 x) (.lit (.int .i64 v))) = (if x ∈ K then K else x :: K).length := by
    rw [Maps.size_put (hown.tidy Try.lawIntK), hs, (h1 x hx).1]
    by_cases e : x ∈ K
    · simp [e]
    · simp [e]
  refine ⟨w', u1, ⟨_, ?_, hsz, fun y hy => ?_⟩, turned_modK u3⟩
  · have := ownsMap_tight u2
    rw [hsz] at this; exact this
  · by_cases e : y = x
    · subst e
      refine ⟨?_, ?_⟩
      · rw [Maps.has_put_same hown.isMap (show WideAt.IsKeyLit (.int .i64 y) from trivial)]
        by_cases e2 : y ∈ K
        · simp [e2]
        · simp [e2]
      · rw [Maps.atKey_put_same hown.isMap (show WideAt.IsKeyLit (.int .i64 y) from trivial)]; simp
    · have hne : (Lit.int .i64 y) ≠ (.int .i64 x) := by intro e2; injection e2 with _ e2; exact e e2
      refine ⟨?_, ?_⟩
      · rw [Maps.has_put_other hne, (h1 y hy).1]
        by_cases e2 : x ∈ K
        · simp [e2]
        · simp [e2, e]
      · rw [Maps.atKey_put_other hne, (h1 y hy).2]; simp only [e, if_false]
end
end Go.Proofs.Ytgdijlpkbbfedaa

namespace Go.Proofs.Ytgdijlpkbbfedaa
open Go.RowKit

/-- Four numbers lie in a block of the function's own, beside a hand. -/
structure Beside (w : World) (hb qb : Nat) (ty : TypeId) (more : List Value) (p : Nat) (R : ArR) (S : ArS) (A : Nat → Abs) (t : Nat) (bad : Int) (Q : Nat → Int) (R' : ArR) (S' : ArS) (A' : Nat → Abs) (bad' : Int) (wx : World) : Prop where
  hd : Hd wx hb ty more p R' S' A' t bad'
  q : Blk wx qb 50 (QC Q)
  lo : w.heap.size ≤ qb
  no : ¬ Own p R' qb
  st : StepH (fun b => b = hb ∨ w.heap.size ≤ b) p R R' w wx
theorem Hd.beside {w w1 : World} {hb : Nat} {ty : TypeId} {more : List Value} {p : Nat} {R : ArR} {S : ArS} {A : Nat → Abs} {t : Nat} {bad : Int} {Q : Nat → Int} (h : Hd w1 hb ty more p R S A t bad) (hs : StepH (fun b => b = hb) p R R w w1) : Beside w hb w1.heap.size ty more p R S A t bad Q R S A bad (w1.alloc (.cells (QC Q) 50)) :=
  ⟨h.alloc _, Blk.new _ _ _, hs.mod.size, fun ho => Nat.lt_irrefl _ (h.arm.own_lt ho), (hs.wide fun _b _ e => .inl e).alloc _⟩
theorem Beside.step {w w1 wx : World} {hb qb : Nat} {ty : TypeId} {more : List Value} {p : Nat} {R R' R2 : ArR} {S S' S2 : ArS} {A A' A2 : Nat → Abs} {t : Nat} {bad bad' bad2 : Int} {Q : Nat → Int} (h : Beside w hb qb ty more p R S A t bad Q R' S' A' bad' wx) (hlt : hb < w.heap.size)
    (hd : Hd w1 hb ty more p R2 S2 A2 t bad2) (hst : StepH (fun b => b = hb) p R' R2 wx w1) : Beside w hb qb ty more p R S A t bad Q R2 S2 A2 bad2 w1 :=
  ⟨hd, h.q.mod hst.mod fun ho => by
    rcases ho with ho | ho
    · exact h.no ho
    · have := h.lo; omega, h.lo, hst.not h.q.lt h.no, h.st.trans (hst.wide fun b _ e => .inl e)⟩
theorem Beside.set {w wx : World} {hb qb : Nat} {ty : TypeId} {more : List Value} {p : Nat} {R R' : ArR} {S S' : ArS} {A A' : Nat → Abs} {t : Nat} {bad bad' : Int} {Q : Nat → Int} (h : Beside w hb qb ty more p R S A t bad Q R' S' A' bad' wx) (hlt : hb < w.heap.size) {k : Nat} (hk : k < 4) (r : Int) :
    Beside w hb qb ty more p R S A t bad (upd Q k r) R' S' A' bad' (wx.setCell ⟨qb, k, none⟩ (.int .i64 r)) := by
  have hlo := h.lo
  refine ⟨h.hd.keep (T := fun b => b = qb) ((Mod.refl (fun b => b = qb) wx).set (p := ⟨qb, k, none⟩) (fun _ => rfl) _) (fun b hb e => by subst e; exact h.no hb) (by omega), ?_, hlo, h.no, h.st.set (q := ⟨qb, k, none⟩) (fun _ => .inr hlo) _⟩
  rw [← QC_set Q hk]; exact h.q.set k _
theorem Beside.fin {w wx w1 : World} {hb qb : Nat} {ty : TypeId} {more : List Value} {p : Nat} {R R' R2 : ArR} {S S' : ArS} {A A' : Nat → Abs} {t : Nat} {bad bad' : Int} {Q : Nat → Int} (h : Beside w hb qb ty more p R S A t bad Q R' S' A' bad' wx) (hst : StepH (fun b => b = hb) p R' R2 wx w1) : StepH (fun b => b = hb) p R R2 w w1 :=
  (h.st.trans (hst.wide fun b _ e => .inl e)).wide fun b hb e => by
    rcases e with e | e
    · exact e
    · omega

theorem kids_upd {S : ArS} {A : Nat → Abs} {t : Nat} {Q : Nat → Int} {T : Nat → Tree} {k : Nat} {r : Int} (h : Has S A t r (T k)) (h2 : ∀ j, j < 4 → j ≠ k → Has S A t (Q j) (T j)) : ∀ j, j < 4 → Has S A t (upd Q k r j) (T j) := fun j hj => by
  by_cases e : j = k
  · subst e; rw [upd_same]; exact h
  · rw [upd_ne _ _ e]; exact h2 j hj e
end Go.Proofs.Ytgdijlpkbbfedaa

namespace Go.Proofs.Ytgdijlpkbbfedaa
open Go.RowKit

abbrev WT := 76
/-- Nothing lives in a tree. -/
def blankT : Tree → Bool
  | .dead => true
  | .alive => false
  | .node a b c d => blankT a && blankT b && blankT c && blankT d
theorem blankT_of (P : Int → Int → Bool) : ∀ (n : Nat) (x y : Int), blankT (treeOf P n x y) = true ↔ ∀ a b, inB n x y a b → P a b = false
  | 0, x, y => by
    simp only [treeOf]
    constructor
    · intro h a b hb
      have h1 : a = x := by unfold inB at hb; simp at hb; omega
      have h2 : b = y := by unfold inB at hb; simp at hb; omega
      subst h1 h2
      cases hp : P a b
      · rfl
      · rw [hp] at h; simp [blankT] at h
    · intro h
      have := h x y (by unfold inB; simp; omega)
      rw [this]; rfl
  | n + 1, x, y => by
    simp only [treeOf, blankT, Bool.and_eq_true]
    rw [blankT_of P n, blankT_of P n, blankT_of P n, blankT_of P n]
    constructor
    · rintro ⟨⟨⟨h0, h1⟩, h2⟩, h3⟩ a b hb
      rcases inB.up.1 hb with k | k | k | k
      · exact h0 a b k
      · exact h1 a b k
      · exact h2 a b k
      · exact h3 a b k
    · intro h
      exact ⟨⟨⟨fun a b k => h a b (inB.up.2 (.inl k)), fun a b k => h a b (inB.up.2 (.inr (.inl k)))⟩, fun a b k => h a b (inB.up.2 (.inr (.inr (.inl k))))⟩, fun a b k => h a b (inB.up.2 (.inr (.inr (.inr k))))⟩
/-- A walker at work, and what it knows. -/
structure Wk (w : World) (wb mb : Nat) (p : Nat) (R : ArR) (S : ArS) (A : Nat → Abs) (t : Nat) (bad : Int) (K : List Int) (m : Int → Int) : Prop where
  hd : Hd w wb WT [.map (some mb)] p R S A t bad
  map : MapN w mb K m
  no : ¬ Own p R mb
  nodup : K.Nodup
  memo : ∀ x ∈ K, 2 ≤ x ∧ ∃ T, Has S A t x T ∧ m x = if blankT T then 1 else 2
  none : ∀ x, x ∉ K → m x = 0
/-- What a walker may have changed. -/
abbrev WX (wb mb : Nat) : Nat → Prop := fun b => b = wb ∨ b = mb
section
variable {w w1 w' : World} {wb mb p t : Nat} {R R1 R' : ArR} {S S' : ArS} {A A' : Nat → Abs} {bad bad' : Int} {K : List Int} {m : Int → Int}
theorem Wk.below (h : Wk w wb mb p R S A t bad K m) (hb : Below w.heap.size w w') : Wk w' wb mb p R S A t bad K m :=
  ⟨h.hd.below hb, h.map.mod (Mod.of_below_all hb) (fun h => h), h.no, h.nodup, h.memo, h.none⟩
theorem Wk.ne (h : Wk w wb mb p R S A t bad K m) : mb ≠ wb := h.map.ne h.hd.blk
/-- A hand's function does not touch what the walker knows. -/
theorem Wk.hand (h : Wk w wb mb p R S A t bad K m) (hd : Hd w1 wb WT [.map (some mb)] p R1 S' A' t bad') (hs : StepH (fun b => b = wb) p R R1 w w1) (hst : St t S A S' A') : Wk w1 wb mb p R1 S' A' t bad' K m :=
  ⟨hd, h.map.mod hs.mod fun ho => by
    rcases ho with ho | ho
    · exact h.no ho
    · exact h.ne ho, hs.not h.map.lt h.no, h.nodup, fun x hx => by
    obtain ⟨h2, T, hT, hm⟩ := h.memo x hx
    exact ⟨h2, T, hT.st h.hd.ht hst, hm⟩, h.none⟩
theorem Wk.few (h : Wk w wb mb p R S A t bad K m) : K.length < maxLen := by
  have hl := h.hd.inv.lenN
  have : K.length ≤ ((List.range 200002).map fun i : Nat => (i : Int)).length := List.Nodup.length_le_of_subset h.nodup fun x hx => by
    obtain ⟨h2, T, hT, _⟩ := h.memo x hx
    cases T with
    | dead => have h0 := hT.1; simp only [Den] at h0; omega
    | alive => have h0 := hT.1; simp only [Den] at h0; omega
    | node a b c d =>
      have h0 := hT.1
      simp only [Den] at h0
      obtain ⟨i, e, rfl, h3, _⟩ := h0
      have := (List.getElem?_eq_some_iff.1 h3).1
      exact List.mem_map.2 ⟨i, List.mem_range.2 (by omega), rfl⟩
  rw [List.length_map, List.length_range] at this
  unfold maxLen; omega
/-- What the walker is told is written down. -/
theorem Wk.put (h : Wk w wb mb p R S A t bad K m) {x v : Int} {T : Tree} (h2 : 2 ≤ x) (hT : Has S A t x T) (hv : v = if blankT T then 1 else 2) :
    ∃ w', (Instr.mapUpdate 74 (.map (some mb)) (.int .i64 x) (.int .i64 v)).run Try.prog w = .ok () w' ∧ Wk w' wb mb p R S A t bad (if x ∈ K then K else x :: K) (fun y => if y = x then v else m y) ∧ StepH (WX wb mb) p R R w w' := by
  obtain ⟨w', h3, h4, h5⟩ := h.map.put (x := x) (v := v) (hT.1.i64 h.hd.inv) h.few (by rw [hv]; split <;> exact ⟨by decide, by decide⟩)
  refine ⟨w', h3, ⟨h.hd.keep h5 (fun b hb e => h.no (e ▸ hb)) (fun e => h.ne e.symm), h4, h.no, ?_, fun y hy => ?_, fun y hy => ?_⟩, h5.mono fun b _ e => .inr (.inr e), fun _ h => .inl h⟩
  · split
    · exact h.nodup
    · exact List.nodup_cons.2 ⟨by assumption, h.nodup⟩
  · by_cases e : y = x
    · subst e
      exact ⟨h2, T, hT, by simp only [if_true]; exact hv⟩
    · have : y ∈ K := by
        split at hy
        · exact hy
        · rcases List.mem_cons.1 hy with q | q
          · exact absurd q e
          · exact q
      obtain ⟨g1, T', g2, g3⟩ := h.memo y this
      exact ⟨g1, T', g2, by simp only [e, if_false]; exact g3⟩
  · have e : y ≠ x := by
      rintro rfl
      apply hy
      split
      · assumption
      · exact List.mem_cons_self ..
    have : y ∉ K := fun q => hy (by
      split
      · exact q
      · exact List.mem_cons_of_mem _ q)
    simp only [e, if_false]; exact h.none y this
end
def WEPost (w : World) (wb mb p : Nat) (R : ArR) (S : ArS) (A : Nat → Abs) (t : Nat) (bad : Int) (T : Tree) (e : Ending) (w' : World) : Prop :=
  ∃ (K : List Int) (m : Int → Int), e = .returned (.bool (blankT T)) ∧ Wk w' wb mb p R S A t bad K m ∧ StepH (WX wb mb) p R R w w'
def WEOk (T : Tree) : Prop := ∀ (w : World) (wb mb p : Nat) (R : ArR) (S : ArS) (A : Nat → Abs) (t : Nat) (K : List Int) (m : Int → Int), Wk w wb mb p R S A t 0 K m → ∀ id : Int, Has S A t id T →
  Calls Try.prog 45 #[.pointer (some ⟨wb, 0, none⟩), .int .i64 id] w (WEPost w wb mb p R S A t 0 T)

set_option maxRecDepth 100000 in
set_option maxHeartbeats 3200000 in
/-- A number below 2, whatever went wrong. -/
theorem wempty_two (w : World) (wb mb p : Nat) (R : ArR) (S : ArS) (A : Nat → Abs) (t : Nat) (bad : Int) (K : List Int) (m : Int → Int) (h : Wk w wb mb p R S A t bad K m) (T : Tree) (id : Int) (hT : Den S id T) (h2 : id < 2) :
    Calls Try.prog 45 #[.pointer (some ⟨wb, 0, none⟩), .int .i64 id] w (WEPost w wb mb p R S A t bad T) := by
  have H := Lib.hid h
  have hb : (id == 0) = blankT T := by
    cases T with
    | dead => simp only [Den] at hT; subst hT; rfl
    | alive => simp only [Den] at hT; subst hT; rfl
    | node a b c d => 
      simp only [Den] at hT
      obtain ⟨i, e, rfl, _, h3, _⟩ := hT
      have := h.hd.inv.two h3; omega
  have HB := Lib.hid hb
  clear h hT hb
  go_enter Try.func45, Try.ntmps45
  go_wp2_with fail
  go_ret
  exact ⟨K, m, by rw [← HB.out]; rfl, H.out, StepH.refl _ p R w⟩
/-- What a walker writes down. -/
def nOf (b : Bool) : Int := if b then 1 else 2
/-- What is found of four squares, j of them seen. -/
def seenT (T : Nat → Tree) (j : Nat) : Bool := (List.range j).all fun k => blankT (T k)
theorem seenT_succ (T : Nat → Tree) (j : Nat) : seenT T (j + 1) = (seenT T j && blankT (T j)) := by
  unfold seenT; rw [List.range_succ, List.all_append]; simp
theorem seenT_four (T : Nat → Tree) : blankT (.node (T 0) (T 1) (T 2) (T 3)) = seenT T 4 := by
  simp [seenT, blankT, List.range_succ, Bool.and_assoc]

set_option maxRecDepth 100000 in
set_option maxHeartbeats 3200000 in
theorem wempty_node (T : Nat → Tree) (ih : ∀ j, j < 4 → WEOk (T j)) : WEOk (.node (T 0) (T 1) (T 2) (T 3)) := by
  intro w wb mb p R S A t K m h id hT
  have H := Lib.hid h
  have HT := Lib.hid hT
  have hi2 : 2 ≤ id := by
    have h0 := hT.1
    simp only [Den] at h0
    obtain ⟨i, e, rfl, _, h3, _⟩ := h0
    have := h.hd.inv.two h3; omega
  have h3 : w.cell? ⟨wb, 3, none⟩ = some (.map (some mb)) := h.hd.blk.cellS (i := 3) rfl
  have hib : decide (id < 2) = false := decide_eq_false (by omega)
  have hlk := h.map.look (hT.1.i64 h.hd.inv)
  by_cases hK : id ∈ K
  · have hm : m id = if blankT (.node (T 0) (T 1) (T 2) (T 3)) then 1 else 2 := by
      obtain ⟨_, T', g1, g2⟩ := h.memo id hK
      rw [g2, Den.fn h.hd.inv g1.1 hT.1]
    rw [hm] at hlk
    clear h hT hm hK
    cases hB : blankT (.node (T 0) (T 1) (T 2) (T 3))
    · rw [hB] at hlk
      rw [if_neg Bool.false_ne_true] at hlk
      have HB := Lib.hid hB
      clear hB
      go_enter Try.func45, Try.ntmps45
      go_wp2_with fail
      go_ret
      exact ⟨K, m, by rw [HB.out]; rfl, H.out, StepH.refl _ p R w⟩
    · rw [hB] at hlk
      rw [if_pos rfl] at hlk
      have HB := Lib.hid hB
      clear hB
      go_enter Try.func45, Try.ntmps45
      go_wp2_with fail
      go_ret
      exact ⟨K, m, by rw [HB.out]; rfl, H.out, StepH.refl _ p R w⟩
  · rw [h.none id hK] at hlk
    have HK := Lib.hid (hkids_any w wb WT [.map (some mb)] p R S A t 0 h.hd id _ _ _ _ (fun _ => hT))
    clear h hT hK
    go_enter Try.func45, Try.ntmps45
    go_wp2_with fail
    (with_reducible refine HK.out.mono ?_)
    rintro e w1 ⟨k0, k1, k2, k3, rfl, hkh, _, hd1, hs1⟩
    obtain ⟨g0, g1, g2, g3⟩ := hkh rfl
    have HQ : Hid (∀ j, j < 4 → Has S A t (qAt k0 k1 k2 k3 j) (T j)) := fun j hj => by
      rcases (by omega : j = 0 ∨ j = 1 ∨ j = 2 ∨ j = 3) with rfl | rfl | rfl | rfl <;> assumption
    have HW1 := Lib.hid (H.out.hand hd1 hs1 (St.refl H.out.hd.rel t))
    have HS1 : Hid (StepH (WX wb mb) p R R w w1) := hs1.wide fun b _ e => .inl e
    clear hkh hd1 hs1 g0 g1 g2 g3 HK h3 hlk
    go_wp2_with fail
    go_loopw [28, 6] (fun iv nv wx => ∃ (j : Nat) (K' : List Int) (m' : Int → Int), iv = .int .i64 j ∧ j ≤ 4 ∧ nv = .int .i64 (nOf (seenT T j)) ∧ Wk wx wb mb p R S A t 0 K' m' ∧ StepH (WX wb mb) p R R w wx) (fun iv _ _ => 4 - (intOf iv).toNat)
    case atStart => exact ⟨0, K, m, rfl, Nat.zero_le _, rfl, HW1.out, HS1.out⟩
    case round =>
      obtain ⟨j, K', m', rfl, hj, rfl, hW, hS⟩ := hrel
      have HW := Lib.hid hW
      have HS := Lib.hid hS
      clear hW hS
      by_cases hj4 : j < 4
      · have hq := fun w => idx4 k0 k1 k2 k3 j hj4 w
        have HI := Lib.hid (ih j hj4 wr wb mb p R S A t K' m' HW.out _ (HQ.out j hj4))
        have HJ4 := Lib.hid hj4
        have hlt : (j : Int) < 4 := by omega
        have hwi := wrap_nat' j (by unfold maxLen; omega)
        have HSE := Lib.hid (seenT_succ T j)
        clear hj4 hj
        cases hb : blankT (T j)
        · have HBJ := Lib.hid hb
          clear hb
          go_wp2_with fail
          (with_reducible refine HI.out.mono ?_)
          rintro e w3 ⟨K2, m2, rfl, hw3, hs3⟩
          rw [HBJ.out]
          have HW3 := Lib.hid hw3
          have HS3 := Lib.hid (HS.out.trans hs3)
          have HN : Hid (seenT T (j + 1) = false) := by show seenT T (j + 1) = false; rw [HSE.out, HBJ.out]; simp
          clear hw3 hs3 HI
          go_wp2_with fail
          go_roundw
          case rel => exact ⟨j + 1, K2, m2, by go_num, HJ4.out, by rw [HN.out]; rfl, HW3.out, HS3.out⟩
          case measure => simp [intOf]; have := HJ4.out; omega
        · have HBJ := Lib.hid hb
          clear hb
          go_wp2_with fail
          (with_reducible refine HI.out.mono ?_)
          rintro e w3 ⟨K2, m2, rfl, hw3, hs3⟩
          rw [HBJ.out]
          have HW3 := Lib.hid hw3
          have HS3 := Lib.hid (HS.out.trans hs3)
          have HN : Hid (seenT T (j + 1) = seenT T j) := by show seenT T (j + 1) = seenT T j; rw [HSE.out, HBJ.out]; simp
          clear hw3 hs3 HI
          go_wp2_with fail
          go_roundw
          case rel => exact ⟨j + 1, K2, m2, by go_num, HJ4.out, by rw [HN.out], HW3.out, HS3.out⟩
          case measure => simp [intOf]; have := HJ4.out; omega
      · have hj5 : j = 4 := by omega
        subst hj5
        obtain ⟨w4, hrun, hw4, hs4⟩ := HW.out.put hi2 (HT.out.st HW.out.hd.ht (St.refl HW.out.hd.rel t)) (v := nOf (seenT T 4)) (by rw [seenT_four]; rfl)
        have HW4 := Lib.hid hw4
        have HS4 := Lib.hid (HS.out.trans hs4)
        have h3' : wr.cell? ⟨wb, 3, none⟩ = some (.map (some mb)) := HW.out.hd.blk.cellS (i := 3) rfl
        have HSF := Lib.hid (seenT_four T)
        clear hj hj4 hw4 hs4
        cases hB : seenT T 4
        · rw [hB] at HSF hrun
          rw [show nOf false = 2 from rfl] at hrun ⊢
          go_wp2_with fail
          go_ret
          exact ⟨_, _, by rw [HSF.out]; rfl, HW4.out, HS4.out⟩
        · rw [hB] at HSF hrun
          rw [show nOf true = 1 from rfl] at hrun ⊢
          go_wp2_with fail
          go_ret
          exact ⟨_, _, by rw [HSF.out]; rfl, HW4.out, HS4.out⟩
theorem wempty_any : ∀ T : Tree, WEOk T
  | .dead => fun w wb mb p R S A t K m h id hT => wempty_two w wb mb p R S A t 0 K m h .dead id hT.1 (by have := hT.1; simp only [Den] at this; omega)
  | .alive => fun w wb mb p R S A t K m h id hT => wempty_two w wb mb p R S A t 0 K m h .alive id hT.1 (by have := hT.1; simp only [Den] at this; omega)
  | .node a b c d => by
    have h0 := wempty_any a
    have h1 := wempty_any b
    have h2 := wempty_any c
    have h3 := wempty_any d
    exact wempty_node (fun j => if j = 0 then a else if j = 1 then b else if j = 2 then c else d) fun j hj => by
      rcases (by omega : j = 0 ∨ j = 1 ∨ j = 2 ∨ j = 3) with rfl | rfl | rfl | rfl <;> assumption
end Go.Proofs.Ytgdijlpkbbfedaa
