/- quad: four squares made one behind the other. · leap: small. -/
import Derived.Test.YtgdijlpkbbfedaaZ6

namespace Go.Proofs.Ytgdijlpkbbfedaa
open Go.RowKit

def QC (Q : Nat → Int) : Array Value := #[.int .i64 (Q 0), .int .i64 (Q 1), .int .i64 (Q 2), .int .i64 (Q 3)]
theorem QC_set (Q : Nat → Int) {k : Nat} (hk : k < 4) (r : Int) : (QC Q).setIfInBounds k (.int .i64 r) = QC (upd Q k r) := by
  rcases (by omega : k = 0 ∨ k = 1 ∨ k = 2 ∨ k = 3) with rfl | rfl | rfl | rfl <;> rfl
theorem QC_get (Q : Nat → Int) {k : Nat} (hk : k < 4) : (QC Q)[k]? = some (.int .i64 (Q k)) := by
  rcases (by omega : k = 0 ∨ k = 1 ∨ k = 2 ∨ k = 3) with rfl | rfl | rfl | rfl <;> rfl
/-- The squares of the first j trees. -/
def upto (T : Nat → Tree) : Nat → List Thing
  | 0 => []
  | j + 1 => upto T j ++ nodes (T j)
theorem upto_four (T : Nat → Tree) : ∀ x ∈ upto T 4, x ∈ nodes (.node (T 0) (T 1) (T 2) (T 3)) := fun x hx => by
  simp only [upto, List.nil_append, List.mem_append] at hx
  rw [mem_nodes]
  rcases hx with ((h | h) | h) | h
  · exact .inr (.inl h)
  · exact .inr (.inr (.inl h))
  · exact .inr (.inr (.inr (.inl h)))
  · exact .inr (.inr (.inr (.inr h)))
/-- j of four squares are made; their numbers lie in block qb. -/
structure QuadI (w1 : World) (hb qb : Nat) (ty : TypeId) (more : List Value) (p : Nat) (R : ArR) (S : ArS) (A : Nat → Abs) (t : Nat) (bad : Int) (T : Nat → Tree) (j : Nat) (Q : Nat → Int) (S' : ArS) (A' : Nat → Abs) (R' : ArR) (bad' : Int) (wx : World) : Prop where
  made : Made t (upto T j) S A bad S' A' bad'
  has : bad' = 0 → ∀ k, k < j → Has S' A' t (Q k) (T k)
  hd : Hd wx hb ty more p R' S' A' t bad'
  q : Blk wx qb 50 (QC Q)
  st : StepH (fun b => b = hb ∨ b = qb) p R R' w1 wx
section
variable {w w0 w1 w2 wx : World} {hb qb : Nat} {ty : TypeId} {more : List Value} {p : Nat} {R R' R2 : ArR} {S S' S2 : ArS} {A A' A2 : Nat → Abs} {t : Nat} {bad bad' bad2 : Int} {T : Nat → Tree} {j : Nat} {Q : Nat → Int}
theorem QuadI.start (h : Hd w1 hb ty more p R S A t bad) (hq : Blk w1 qb 50 #[.int .i64 0, .int .i64 0, .int .i64 0, .int .i64 0]) (T : Nat → Tree) : QuadI w1 hb qb ty more p R S A t bad T 0 (fun _ => 0) S A R bad w1 :=
  ⟨Made.refl h.rel t bad, fun _ _k hk => absurd hk (Nat.not_lt_zero _), h, hq, StepH.refl _ p R w1⟩
theorem QuadI.step (h : QuadI w1 hb qb ty more p R S A t bad T j Q S' A' R' bad' wx) (hlt : qb < w1.heap.size) (hno : ¬ Own p R qb) (hne : qb ≠ hb) (hj : j < 4) {r : Int} (hm : Made t (nodes (T j)) S' A' bad' S2 A2 bad2) (hh : bad2 = 0 → Has S2 A2 t r (T j))
    (hd : Hd w2 hb ty more p R2 S2 A2 t bad2) (hst : StepH (fun b => b = hb) p R' R2 wx w2) :
    w2.cell? ⟨qb, j, none⟩ = some (.int .i64 (Q j)) ∧ w2.frozen? ⟨qb, j, none⟩ = false ∧ QuadI w1 hb qb ty more p R S A t bad T (j + 1) (upd Q j r) S2 A2 R2 bad2 (w2.setCell ⟨qb, j, none⟩ (.int .i64 r)) := by
  have hno' : ¬ Own p R' qb := h.st.not hlt hno
  have hq2 : Blk w2 qb 50 (QC Q) := h.q.mod hst.mod fun ho => by
    rcases ho with ho | ho
    · exact hno' ho
    · exact hne ho
  have hno2 : ¬ Own p R2 qb := hst.not h.q.lt hno'
  refine ⟨hq2.cellS (QC_get Q hj), hq2.frozen j, ⟨h.made.trans hm, fun e k hk => ?_, hd.keep (T := fun b => b = qb) ((Mod.refl (fun b => b = qb) w2).set (p := ⟨qb, j, none⟩) (fun _ => rfl) _) (fun b hb e => by subst e; exact hno2 hb) (Ne.symm hne), ?_, ?_⟩⟩
  · by_cases e2 : k = j
    · subst e2; rw [upd_same]; exact hh e
    · rw [upd_ne _ _ e2]
      exact (h.has ((hm.ok e).1) k (by omega)).st hd.ht hm.st
  · rw [← QC_set Q hj]; exact hq2.set j _
  · exact (h.st.trans (hst.wide fun b _ e => .inl e)).set (q := ⟨qb, j, none⟩) (fun _ => .inr rfl) _
/-- The parts lie still. -/
theorem QuadI.parts {h x y : Int} {l : List (Int × Int)} {V : Nat → Value} {m : Nat} (H : Hd w hb ty more p R S A t bad) (hP : PartI w h x y l V m w0) (hl : l.length = m) (ob : Obj) (hI : QuadI (w0.alloc ob) hb w0.heap.size ty more p R S A t bad T j Q S' A' R' bad' wx) {k : Nat} (hk : k < 4) :
    wx.cell? ⟨w.heap.size, k, none⟩ = some (V k) ∧ Rd wx wx.heap.size 2 (V k) (part h x y k l).length (flat (part h x y k l)) := by
  have h1 := H.blk.lt
  have h2 := hP.blk.lt
  have hT : l.take m = l := by rw [← hl]; exact List.take_length
  have key : ∀ b, w.heap.size ≤ b → b < w0.heap.size → wx.heap[b]? = (w0.alloc ob).heap[b]? := fun b g1 g2 =>
    hI.st.mod.block b (by simp; omega) fun ho => by
      rcases ho with ho | ho | ho
      · have := H.arm.own_lt ho; omega
      · omega
      · omega
  constructor
  · have := (hP.blk.alloc ob).cellS (VC_get V hk)
    exact (World.cell?_of_block (a := ⟨w.heap.size, k, none⟩) (key w.heap.size (Nat.le_refl _) h2)).trans this
  · have hs := (hP.sl k hk)
    rw [hT] at hs
    exact ((hs.alloc ob).of_blk fun b hb => by
      have := hP.fr k hk b hb
      exact key b (by omega) (hs.lt hb).1).rd
theorem QuadI.quad_end {h x y : Int} {l : List (Int × Int)} {V : Nat → Value} {m : Nat} {ob : Obj} (hI : QuadI (w0.alloc ob) hb w0.heap.size ty more p R S A t bad T j Q S' A' R' bad' wx) (_H : Hd w hb ty more p R S A t bad) (hP : PartI w h x y l V m w0) (hst : StepH (fun b => b = hb) p R' R2 wx w2) : StepH (fun b => b = hb) p R R2 w w2 := by
  have h2 := hP.blk.lt
  have s1 : StepH (fun b => b = hb ∨ b = w0.heap.size) p R R w (w0.alloc ob) := StepH.of_below (hP.bl.alloc hP.bl.size ob)
  exact ((s1.trans hI.st).trans (hst.wide fun b _ e => .inl e)).wide fun b hb e => by
    rcases e with e | e
    · exact e
    · omega
end
end Go.Proofs.Ytgdijlpkbbfedaa

namespace Go.Proofs.Ytgdijlpkbbfedaa
open Go.RowKit

/-- The sum of the first m of nine cells round one, less the one in the middle. -/
def PS (G : Nat → Int) (k : Nat) : Nat → Int
  | 0 => -G ((1 + k / 2) * 4 + (1 + k % 2))
  | m + 1 => PS G k m + G ((k / 2 + m / 3) * 4 + (k % 2 + m % 3))
theorem PS_bd {G : Nat → Int} (h : ∀ i, i < 16 → 0 ≤ G i ∧ G i ≤ 1) {k : Nat} (hk : k < 4) : ∀ {m : Nat}, m ≤ 9 → -1 ≤ PS G k m ∧ PS G k m ≤ m
  | 0, _ => by have := h ((1 + k / 2) * 4 + (1 + k % 2)) (by omega); rw [PS]; omega
  | m + 1, hm => by have := h ((k / 2 + m / 3) * 4 + (k % 2 + m % 3)) (by omega); have := PS_bd h hk (m := m) (by omega); rw [PS]; omega
theorem PS_near {G : Nat → Int} {g : Nat → Nat → Tree} (h : ∀ y x, y < 4 → x < 4 → G (y * 4 + x) = oneT (g y x)) {k : Nat} (hk : k < 4) : PS G k 9 = nearT g (k / 2) (k % 2) := by
  have e : k = 0 ∨ k = 1 ∨ k = 2 ∨ k = 3 := by omega
  have hh : ∀ y x, y < 4 → x < 4 → oneT (g y x) = G (y * 4 + x) := fun y x a b => (h y x a b).symm
  unfold nearT
  rw [hh _ _ (by omega) (by omega), hh _ _ (by omega) (by omega), hh _ _ (by omega) (by omega), hh _ _ (by omega) (by omega), hh _ _ (by omega) (by omega), hh _ _ (by omega) (by omega), hh _ _ (by omega) (by omega), hh _ _ (by omega) (by omega)]
  rcases e with rfl | rfl | rfl | rfl <;> simp [PS] <;> omega
theorem near_bd (g : Nat → Nat → Tree) (y x : Nat) : 0 ≤ nearT g y x ∧ nearT g y x ≤ 8 := by
  have h : ∀ T, 0 ≤ oneT T ∧ oneT T ≤ 1 := fun T => by unfold oneT; split <;> omega
  unfold nearT
  have := h (g y x); have := h (g y (x + 1)); have := h (g y (x + 2)); have := h (g (y + 1) x); have := h (g (y + 1) (x + 2)); have := h (g (y + 2) x); have := h (g (y + 2) (x + 1)); have := h (g (y + 2) (x + 2))
  omega
structure SmallI (w : World) (hb p : Nat) (R : ArR) (S : ArS) (A : Nat → Abs) (t : Nat) (b l : Int) (G : Nat → Int) (g : Nat → Nat → Tree) (Q : Nat → Int) (k : Nat) (wx : World) : Prop where
  lp : Lp wx hb p R S A t b l 0
  gg : Lc wx p R hb w.heap.size 105 (gC G)
  q : Lc wx p R hb (w.heap.size + 1) 50 (QC Q)
  st : StepN hb p R R w wx
  told : ∀ k', k' < k → Q k' = oneT (liveT b l g (k' / 2) (k' % 2))
  rest : ∀ k', k ≤ k' → Q k' = 0
section
variable {w wx w1 : World} {hb p : Nat} {R : ArR} {S : ArS} {A : Nat → Abs} {t : Nat} {b l : Int} {G : Nat → Int} {g : Nat → Nat → Tree} {Q : Nat → Int} {k : Nat}
theorem SmallI.below (h : SmallI w hb p R S A t b l G g Q k wx) (hb' : Below wx.heap.size wx w1) : SmallI w hb p R S A t b l G g Q k w1 :=
  ⟨h.lp.below hb', h.gg.below hb', h.q.below hb', h.st.below hb', h.told, h.rest⟩
theorem SmallI.yes (h : SmallI w hb p R S A t b l G g Q k wx) (hk : k < 4) (hl : liveT b l g (k / 2) (k % 2) = .alive) : SmallI w hb p R S A t b l G g (upd Q k 1) (k + 1) (wx.setCell ⟨w.heap.size + 1, k, none⟩ (.int .i64 1)) := by
  refine ⟨h.lp.lset h.q _ _, h.gg.far (by omega) _ _, ?_, h.st.lset (by omega) _ _, fun k' hk' => ?_, fun k' hk' => ?_⟩
  · rw [← QC_set Q hk]; exact h.q.set _ _
  · by_cases e : k' = k
    · subst e; rw [upd_same, hl]; rfl
    · rw [upd_ne _ _ e]; exact h.told k' (by omega)
  · rw [upd_ne _ _ (by omega)]; exact h.rest k' (by omega)
theorem SmallI.no (h : SmallI w hb p R S A t b l G g Q k wx) (hl : liveT b l g (k / 2) (k % 2) = .dead) : SmallI w hb p R S A t b l G g Q (k + 1) wx :=
  ⟨h.lp, h.gg, h.q, h.st, fun k' hk' => by
    by_cases e : k' = k
    · subst e; rw [h.rest k' (Nat.le_refl _), hl]; rfl
    · exact h.told k' (by omega), fun k' hk' => h.rest k' (by omega)⟩
theorem has_one {T : Tree} (hT : T = .dead ∨ T = .alive) : Has S A t (oneT T) T := by
  rcases hT with rfl | rfl
  · exact ⟨by simp only [Den]; rfl, rfl⟩
  · exact ⟨by simp only [Den]; rfl, rfl⟩
end
set_option maxRecDepth 100000 in
set_option maxHeartbeats 12800000 in
theorem lsmall_any (w : World) (hb p : Nat) (R : ArR) (S : ArS) (A : Nat → Abs) (t : Nat) (b l : Int) (h : Lp w hb p R S A t b l 0) (hg : goodR b l)
    (G : Nat → Int) (g : Nat → Nat → Tree) (hG : ∀ y x, y < 4 → x < 4 → G (y * 4 + x) = oneT (g y x)) (hl1 : ∀ y x, y < 4 → x < 4 → g y x = .dead ∨ g y x = .alive) :
    Calls Try.prog 59 #[.pointer (some ⟨hb, 0, none⟩), .agg (gC G)] w (LpPost w hb p R S A t b l 0 (smallT b l g) (fun V => Thing.sq (liveT b l g 0 0) (liveT b l g 0 1) (liveT b l g 1 0) (liveT b l g 1 1) ∈ V)) := by
  have H0 : Hid (SmallI w hb p R S A t b l G g (fun _ => 0) 0 ((w.alloc (.cells (gC G) 105)).alloc (.cells #[.int .i64 0, .int .i64 0, .int .i64 0, .int .i64 0] 50))) := by
    have h1 := h.alloc (.cells (gC G) 105)
    have hq := Lc.new h1 50 (QC fun _ => 0)
    rw [World.size_alloc] at hq
    exact ⟨h1.alloc _, (Lc.new h _ _).alloc _, hq, ((StepN.refl hb p R w).alloc _).alloc _, fun _ h => absurd h (Nat.not_lt_zero _), fun _ _ => rfl⟩
  have H01 : ∀ i, i < 16 → 0 ≤ G i ∧ G i ≤ 1 := fun i hi => by
    have := hG (i / 4) (i % 4) (by omega) (by omega)
    rw [show i / 4 * 4 + i % 4 = i by omega] at this
    rw [this]; unfold oneT; split <;> omega
  have HG := Lib.hid hG
  have HGD := Lib.hid hg
  have HL1 := Lib.hid hl1
  have HBD := Lib.hid (fun k (hk : k < 4) m (hm : m ≤ 9) => PS_bd (G := G) H01 hk hm)
  have H01 := Lib.hid H01
  clear h hG hg hl1
  unfold gC at H0
  unfold gC
  go_enter Try.func59, Try.ntmps59
  go_wp2_with fail
  generalize World.alloc (World.alloc w _) _ = w2 at H0 ⊢
  go_loopw [12] (fun iv wx => ∃ (k : Nat) (Q : Nat → Int), iv = .int .i64 k ∧ k ≤ 4 ∧ SmallI w hb p R S A t b l G g Q k wx) (fun iv _ => 4 - (intOf iv).toNat)
  case atStart => exact ⟨0, _, rfl, Nat.zero_le _, H0.out⟩
  case round =>
    obtain ⟨k, Q, rfl, hk, hI⟩ := hrel
    have HI := Lib.hid hI
    clear hI
    by_cases hk4 : k < 4
    · have hc := HI.out.gg.cell (gC_get G (i := (1 + k / 2) * 4 + (1 + k % 2)) (by omega))
      have k4 : k = 0 ∨ k = 1 ∨ k = 2 ∨ k = 3 := by omega
      have HK4 := Lib.hid hk4
      have hb0 := H01.out ((1 + k / 2) * 4 + (1 + k % 2)) (by omega)
      obtain ⟨κ, hκ⟩ : ∃ κ, κ = k := ⟨_, rfl⟩
      have HKE := Lib.hid hκ
      rw [← hκ] at HI HK4
      have HP0 : Hid (PS G κ 0 = -G ((1 + k / 2) * 4 + (1 + k % 2))) := by rw [hκ]; rfl
      clear hk hk4 hκ
      rcases k4 with rfl | rfl | rfl | rfl
      all_goals (
        (first | rw [show ((0 : Nat) : Int) = 0 from rfl] | rw [show ((1 : Nat) : Int) = 1 from rfl] | rw [show ((2 : Nat) : Int) = 2 from rfl] | rw [show ((3 : Nat) : Int) = 3 from rfl])
        simp only [Nat.reduceDiv, Nat.reduceMod, Nat.reduceMul, Nat.reduceAdd] at hc hb0 HP0
        obtain ⟨hb0, hb1⟩ := hb0
        go_wp2_with fail
        go_loopw [10, 9] (fun dv nv wx => ∃ m : Nat, m ≤ 3 ∧ dv = .int .i64 ((m : Int) - 1) ∧ nv = .int .i64 (PS G κ (3 * m)) ∧ wx = wr) (fun dv _ _ => (2 - intOf dv).toNat)
        case atStart => exact ⟨0, by decide, rfl, by rw [Nat.mul_zero, HP0.out], rfl⟩
        case round =>
          clear hc hb0 hb1
          obtain ⟨m, hm, rfl, rfl, rfl⟩ := hrel
          by_cases hm3 : m < 3
          · have m3 : m = 0 ∨ m = 1 ∨ m = 2 := by omega
            have HM3 := Lib.hid hm3
            obtain ⟨μ, hμ⟩ : ∃ μ, μ = m := ⟨_, rfl⟩
            have HME := Lib.hid hμ
            obtain ⟨ps, hps⟩ : ∃ ps, ps = PS G κ (3 * m) := ⟨_, rfl⟩
            rw [← hps]
            rw [← hμ] at hps HM3
            have HPS := Lib.hid hps
            clear hm hm3 hμ hps
            rcases m3 with rfl | rfl | rfl
            all_goals (
              (first | rw [show ((0 : Nat) : Int) - 1 = -1 from rfl] | rw [show ((1 : Nat) : Int) - 1 = 0 from rfl] | rw [show ((2 : Nat) : Int) - 1 = 1 from rfl])
              go_wp2_with fail
              go_loopw [11, 9] (fun dv nv wx => ∃ m : Nat, m ≤ 3 ∧ dv = .int .i64 ((m : Int) - 1) ∧ nv = .int .i64 (PS G κ (3 * μ + m)) ∧ wx = wr) (fun dv _ _ => (2 - intOf dv).toNat)
              case atStart => exact ⟨0, by decide, rfl, by rw [HPS.out]; rfl, rfl⟩
              case round =>
                obtain ⟨m, hm, rfl, rfl, rfl⟩ := hrel
                by_cases hm3 : m < 3
                · have m3 : m = 0 ∨ m = 1 ∨ m = 2 := by omega
                  have hix : (κ / 2 + (3 * μ + m) / 3) * 4 + (κ % 2 + (3 * μ + m) % 3) < 16 := by have := HK4.out; have := HM3.out; omega
                  have hc := HI.out.gg.cell (gC_get G hix)
                  obtain ⟨hb0, hb1⟩ := H01.out _ hix
                  obtain ⟨hn0, hn1⟩ := HBD.out κ HK4.out (3 * μ + m) (by have := HM3.out; omega)
                  have HST : Hid (PS G κ (3 * μ + m + 1) = PS G κ (3 * μ + m) + G ((κ / 2 + (3 * μ + m) / 3) * 4 + (κ % 2 + (3 * μ + m) % 3))) := rfl
                  have hn2 : PS G κ (3 * μ + m) ≤ 9 := by have := HM3.out; omega
                  generalize PS G κ (3 * μ + m) = ps2 at *
                  obtain ⟨χ, hχ⟩ : ∃ χ, χ = m := ⟨_, rfl⟩
                  rw [← hχ] at HST
                  have HCE := Lib.hid hχ
                  rw [HKE.out, HME.out] at hc hb0 hb1
                  clear hm hm3 hχ hn1 hix
                  rcases m3 with rfl | rfl | rfl
                  all_goals (
                    (first | rw [show ((0 : Nat) : Int) - 1 = -1 from rfl] | rw [show ((1 : Nat) : Int) - 1 = 0 from rfl] | rw [show ((2 : Nat) : Int) - 1 = 1 from rfl])
                    simp only [Nat.reduceDiv, Nat.reduceMod, Nat.reduceMul, Nat.reduceAdd] at hc hb0 hb1
                    go_wp2_with fail
                    refine ⟨⟨χ + 1, ?_, ?_, ?_, by first | rfl | trivial⟩, ?_⟩
                    · rw [HCE.out]; decide
                    · rw [HCE.out]; rfl
                    · rw [← Nat.add_assoc, HST.out, HKE.out, HME.out, HCE.out]
                    · simp [intOf])
                · obtain rfl : m = 3 := by omega
                  go_wp2_with fail
                  refine ⟨⟨μ + 1, ?_, ?_, rfl, by first | rfl | trivial⟩, ?_⟩
                  · rw [HME.out]; decide
                  · rw [HME.out]; rfl
                  · simp [intOf])
          · obtain rfl : m = 3 := by omega
            have hix : (1 + κ / 2) * 4 + (1 + κ % 2) < 16 := by have := HK4.out; omega
            have hcc := HI.out.gg.cell (gC_get G hix)
            have HGX : Hid (G ((1 + κ / 2) * 4 + (1 + κ % 2)) = oneT (g (κ / 2 + 1) (κ % 2 + 1))) := by
              have := HG.out (κ / 2 + 1) (κ % 2 + 1) (by have := HK4.out; omega) (by omega)
              show _ = _
              rw [← this]; congr 1; omega
            obtain ⟨al, hal⟩ : ∃ al, (G ((1 + κ / 2) * 4 + (1 + κ % 2)) == 1) = al := ⟨_, rfl⟩
            have HAL : Hid (al = aliveB (g (κ / 2 + 1) (κ % 2 + 1))) := by
              show _ = _
              rw [← hal, HGX.out]
              unfold oneT aliveB
              by_cases q : g (κ / 2 + 1) (κ % 2 + 1) = .alive
              · rw [if_pos q]; simp [q]
              · rw [if_neg q]; simp [q]
            obtain ⟨N, hN1, hN2, hN3⟩ : ∃ N : Nat, PS G κ (3 * 3) = (N : Int) ∧ N ≤ 8 ∧ N = (nearT g (κ / 2) (κ % 2)).toNat := by
              have h1 := PS_near (G := G) (g := g) HG.out HK4.out
              have h2 := near_bd g (κ / 2) (κ % 2)
              exact ⟨(nearT g (κ / 2) (κ % 2)).toNat, by rw [show 3 * 3 = 9 from rfl, h1]; omega, by omega, rfl⟩
            rw [hN1]
            have HLV := Lib.hid (fun w => lives_any w b l HGD.out.1 HGD.out.2.1 al N hN2)
            have HLT : Hid (liveT b l g (κ / 2) (κ % 2) = if bitB (if al then l else b) N then .alive else .dead) := by
              show _ = _
              unfold liveT; rw [← hN3, ← HAL.out]
            generalize G ((1 + κ / 2) * 4 + (1 + κ % 2)) = x at hcc hal
            generalize bitB (if al = true then l else b) N = lv at *
            rw [HKE.out] at hcc
            simp only [Nat.reduceDiv, Nat.reduceMod, Nat.reduceMul, Nat.reduceAdd] at hcc
            clear hN1 hN2 hN3 hix hm hm3 HGX HAL
            have c2 := HI.out.lp.c2
            have c3 := HI.out.lp.c3
            go_wp2_with fail
            go_region_law (first | (go_simp; go_at_call 77; refine (HLV.out _).mono ?_; rintro e w4 ⟨rfl, hbl⟩))
            all_goals (
              have HI4 : Hid (SmallI w hb p R S A t b l G g Q κ w4) := HI.out.below (w1 := w4) ⟨hbl.os, hbl.tape, hbl.output, hbl.size, hbl.block⟩
              have hqc : w4.cell? ⟨w.heap.size + 1, κ, none⟩ = some (.int .i64 (Q κ)) := HI4.out.q.cell (QC_get Q HK4.out)
              have hqf := HI4.out.q.frozen κ
              rw [HKE.out] at hqc hqf
              clear hbl hcc c2 c3 hal
              cases lv
              · have HN := Lib.hid (HI4.out.no (by rw [HLT.out]; rfl))
                go_wp2_with fail
                refine ⟨⟨κ + 1, Q, ?_, ?_, HN.out⟩, ?_⟩
                · rw [HKE.out]; rfl
                · rw [HKE.out]; decide
                · simp [intOf]
              · have HY := Lib.hid (HI4.out.yes HK4.out (by rw [HLT.out]; rfl))
                go_wp2_with fail
                refine ⟨⟨κ + 1, upd Q κ 1, ?_, ?_, ?_⟩, ?_⟩
                · rw [HKE.out]; rfl
                · rw [HKE.out]; decide
                · have h := HY.out
                  rw [HKE.out] at h ⊢
                  exact h
                · simp [intOf]))
    · obtain rfl : k = 4 := by omega
      have q0 := HI.out.q.cell (QC_get Q (k := 0) (by decide))
      have q1 := HI.out.q.cell (QC_get Q (k := 1) (by decide))
      have q2 := HI.out.q.cell (QC_get Q (k := 2) (by decide))
      have q3 := HI.out.q.cell (QC_get Q (k := 3) (by decide))
      have HH : Hid (∀ k, k < 4 → Has S A t (Q k) (liveT b l g (k / 2) (k % 2))) := fun k hk => by
        rw [HI.out.told k hk]; exact has_one (live_pf ..)
      have HJN := Lib.hid (fun w2 (h2 : Lp w2 hb p R S A t b l 0) => ljoin_any w2 hb p R S A t b l 0 h2 (Q 0) (Q 1) (Q 2) (Q 3) (liveT b l g 0 0) (liveT b l g 0 1) (liveT b l g 1 0) (liveT b l g 1 1) 0 (fun _ => ⟨HH.out 0 (by decide), HH.out 1 (by decide), HH.out 2 (by decide), HH.out 3 (by decide)⟩) ⟨(live_pf ..).lvl, (live_pf ..).lvl, (live_pf ..).lvl, (live_pf ..).lvl⟩ (by decide))
      clear hk hk4
      go_wp2_with fail
      (with_reducible refine (HJN.out _ HI.out.lp).mono ?_)
      intro e w5 hq
      unfold LpPost at hq
      obtain ⟨r, S', A', R', bad', rfl, hgw, hh, hp, hs⟩ := hq
      have HGW := Lib.hid hgw
      have HHS := Lib.hid hh
      have HPP := Lib.hid hp
      have HSS := Lib.hid (HI.out.st.step hs).fin
      clear hgw hh hp hs q0 q1 q2 q3 HJN
      go_wp2_with fail
      go_returns
      exact ⟨r, S', A', R', bad', rfl, HGW.out, HHS.out, HPP.out, HSS.out⟩
end Go.Proofs.Ytgdijlpkbbfedaa
