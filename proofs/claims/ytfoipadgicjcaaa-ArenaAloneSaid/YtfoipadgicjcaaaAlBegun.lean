/- lifelodgekeep: begun. -/
import Derived.Test.YtfoipadgicjcaaaAlM
namespace Go.Proofs.Ytfoipadgicjcaaa
open Go.RowKit

/-- What begun gives: an arena in which the four tenants have nothing. -/
def BegunPost (w : World) (e : Ending) (w' : World) : Prop :=
  ∃ (p : Nat) (R : ArR) (S : ArS), e = .returned (.tuple #[.pointer (some ⟨p, 0, none⟩), .bool true]) ∧ ArM w' p R S ∧ (∃ A, Rel S A ∧ ∀ t, t < 4 → A t = ⟨[], []⟩) ∧ S.room = 200000 ∧ S.live ≤ 1 ∧ (∀ t, t < 4 → S.added t = []) ∧ Below w.heap.size w w' ∧ ∀ b, Own p R b → w.heap.size ≤ b
/-- What the first square does. -/
theorem begun_join {r x : Int} {S' : ArS} (hj : JoinR (newA 200000 64) 63 1 0 0 1 r x S') : r = 2 ∧ x = 0 ∧ S'.count 63 = 1 ∧ (∃ A, Rel S' A ∧ ∀ t, t < 4 → A t = ⟨[], []⟩) ∧ S'.room = 200000 ∧ S'.live ≤ 1 ∧ ∀ t, t < 4 → S'.added t = [] := by
  have hA := newA_rel (room := 200000) (by decide) 64
  have d0 : Den (newA 200000 64) 1 .alive := by simp only [Den]
  have d1 : Den (newA 200000 64) 0 .dead := by simp only [Den]
  have four : ∀ j, j < 4 → j = 0 ∨ j = 1 ∨ j = 2 ∨ j = 3 := fun j hj => by omega
  have lv1 := d0.level hA.inv
  have lv0 := d1.level hA.inv
  have ow : ∀ j, j < 4 → ownsB (newA 200000 64) 63 (qAt 1 0 0 1 j) 0 = true := fun j hj => by
    rcases four j hj with rfl | rfl | rfl | rfl <;> rfl
  cases hj with
  | none j hj ho => rw [ow j hj] at ho; cases ho
  | level j _ hj hl =>
    exfalso
    simp only [Tree.lvl] at lv1 lv0
    rcases hl with hl | hl
    · rcases four j hj with rfl | rfl | rfl | rfl
      · exact hl rfl
      · exact hl (show levelOf _ 0 = _ by rw [lv0, lv1])
      · exact hl (show levelOf _ 0 = _ by rw [lv0, lv1])
      · exact hl rfl
    · omega
  | gives r x S' ho hl hlt hgr =>
    have hok : (⟨0, 1, 0, 0, 1⟩ : KeyA).ok := by
      refine ⟨⟨?_, ?_⟩, ⟨?_, ?_⟩, ⟨?_, ?_⟩, ⟨?_, ?_⟩, ⟨?_, ?_⟩⟩ <;> decide
    obtain ⟨g1, g2, g3, g4, g5, g6, g7⟩ := hA.give (t := 63) (by decide) (x := .sq .alive .dead .dead .alive) hok (by rw [lv1]; simp only [Tree.lvl]; decide) (show (0 : Int) < 200000 by decide) ⟨rfl, by rw [lv1], d0, d1, d1, d0⟩ (fun e => by cases e) ⟨rfl, rfl, rfl, rfl⟩ hgr
    have hq : (newA 200000 64).quota 63 = 200000 := rfl
    have ha : aGive ⟨[], []⟩ ((newA 200000 64).quota 63) (.sq .alive .dead .dead .alive) = (0, ⟨[.sq .alive .dead .dead .alive], [.sq .alive .dead .dead .alive]⟩) := by
      rw [hq]; unfold aGive; rw [if_neg (by simp), if_neg (by simp)]; rfl
    have g1 : x = (aGive ⟨[], []⟩ ((newA 200000 64).quota 63) (.sq .alive .dead .dead .alive)).1 := g1
    rw [ha] at g1
    have g2 : Rel S' (upd (fun _ => ⟨[], []⟩) 63 (aGive ⟨[], []⟩ ((newA 200000 64).quota 63) (.sq .alive .dead .dead .alive)).2) := g2
    rw [ha] at g2
    refine ⟨?_, g1, ?_, ⟨_, g2, fun t ht => by rw [upd_ne _ _ (by omega)]⟩, g6, by have : (newA 200000 64).live = 0 := rfl; omega, fun t ht => ?_⟩
    · cases hgr with
      | has i e hi => cases hi
      | much _ hq => cases hq
      | joins i e hi => cases hi
      | full S0 n _ _ hr => exact absurd hr (by decide)
      | makes S0 S1 i _ _ hs hr ht2 =>
        rcases hs with ⟨_, rfl⟩ | ⟨hr2, _⟩
        · rcases ht2 with ⟨fr, hp, _⟩ | ⟨_, hi, _⟩
          · have := hp.length_eq; simp [newA] at this
          · rw [hi]; rfl
        · exact absurd hr2 (by decide)
    · rw [g2.count (by decide), upd_same]; rfl
    · cases hgr with
      | has i e hi => cases hi
      | much _ hq => cases hq
      | joins i e hi => cases hi
      | full S0 n _ _ hr => exact absurd hr (by decide)
      | makes S0 S1 i _ _ hs hr ht2 =>
        rcases hs with ⟨_, rfl⟩ | ⟨hr2, _⟩
        · have hk := ht2.keeps
          unfold gainS
          split
          · show upd (newS S1 i _ _ _).added 63 _ t = []
            rw [upd_ne _ _ (by omega)]
            show S1.added t = []
            rw [hk.2.2.2.2.2.1]; rfl
          · show S1.added t = []
            rw [hk.2.2.2.2.2.1]; rfl
        · exact absurd hr2 (by decide)

set_option maxRecDepth 100000 in
set_option maxHeartbeats 3200000 in
theorem begun_any (w : World) : Calls Try.prog 47 #[] w (BegunPost w) := by
  go_enter Try.func47, Try.ntmps47
  go_wp2_with fail
  (with_reducible refine (new_any w 200000 (by decide)).mono ?_)
  rintro e w1 ⟨p, R, rfl, hA, hB, hO⟩
  have HA := Lib.hid hA
  have HB := Lib.hid hB
  have HO := Lib.hid hO
  clear hA hB hO
  go_wp2_with fail
  have hI := newA_inv (room := 200000) (by decide) 64
  have hjn : Calls Try.prog 19 #[.pointer (some ⟨p, 0, none⟩), .int .i64 63, .agg #[.int .i64 1, .int .i64 0, .int .i64 0, .int .i64 1]] w1 (JoinPost w1 p R (newA 200000 64) 63 1 0 0 1) := join_any w1 p R (newA 200000 64) HA.out hI rfl 63 (by decide) (Nat.zero_le _) 1 0 0 1
  (with_reducible refine hjn.mono ?_)
  rintro e w2 ⟨r, x, S2, R2, rfl, hj, hA2, hS2⟩
  obtain ⟨rfl, rfl, hc, hrel, hro, hli, had⟩ := begun_join hj
  have HA2 := Lib.hid hA2
  have HC := Lib.hid hc
  have HREL := Lib.hid hrel
  have HRO := Lib.hid hro
  have HLI := Lib.hid hli
  have HAD := Lib.hid had
  have HB2 : Hid (Below w.heap.size w w2) := HB.out.trans (hS2.mod.below HB.out.size fun b hb ho => absurd (HO.out b ho) (by omega))
  have HO2 : Hid (∀ b, Own p R2 b → w.heap.size ≤ b) := fun b hb => by
    rcases hS2.own b hb with h1 | h1
    · exact HO.out b h1
    · exact Nat.le_trans HB.out.size h1
  clear hI hjn hj hA2 hS2 hc hrel hro hli had
  go_wp2_with fail
  have hcn : Calls Try.prog 24 #[.pointer (some ⟨p, 0, none⟩), .int .i64 63] w2 fun e w' => e = .returned (.int .i64 (S2.count 63)) ∧ w2 = w' := count_any w2 p R2 S2 HA2.out 63 (by decide)
  (with_reducible refine hcn.mono ?_)
  rintro e wq ⟨rfl, rfl⟩
  rw [HC.out]
  go_wp2_with fail
  go_returns
  exact ⟨p, R2, S2, rfl, HA2.out, HREL.out, HRO.out, HLI.out, HAD.out, HB2.out, HO2.out⟩
end Go.Proofs.Ytfoipadgicjcaaa
