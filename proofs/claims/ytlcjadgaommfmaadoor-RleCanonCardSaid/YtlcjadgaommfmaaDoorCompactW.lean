/- slices.Compact at []api.Cell: the walk. -/
import Derived.Test.YtlcjadgaommfmaaDoorCompact
import Derived.Deep.DeepCutAuto
namespace Go.Proofs.YtlcjadgaommfmaaDoor
open Go.RowKit

theorem wpList_clear {P : Program} {w w' : World} {ops : Array Oper} {rest : List Oper} {o : Oper} {a : Act} {Q : Exit → Act → World → Prop} (hgd : o.guard = none) (s : Operand) (t : TypeId)
    (ho : o.op = .call { callee := .builtin .clear, args := #[s], argTypes := #[t] }) {v : Value} (hs : a.eval s = v)
    (hrun : (Builtin.clear_ #[t] o.type #[v]).run P w = .ok (.tuple #[]) w') (h : wpList P ops Q rest (a.put o.dst (.tuple #[])) w') : wpList P ops Q (o :: rest) a w :=
  wpList_plain hgd fun _ hK => by
    unfold Oper.wp execOp
    simp only [ho, resolve, invoke, builtin, Sem.run_bind, Sem.run_pure, Result.andThen_ok, List.map_toArray, List.map_cons, List.map_nil, hs, hrun]
    exact hK _ _ h

/-- What has been kept of the first j cells. -/
def kept (F : Nat → Int × Int) (j : Nat) : List (Int × Int) := compactL ((List.range j).map F)
theorem kept_succ (F : Nat → Int × Int) (j : Nat) : kept F (j + 1) = compStep (kept F j) (F j) := by
  unfold kept; rw [List.range_succ, List.map_append]; exact compactL_snoc _ _
theorem kept_last (F : Nat → Int × Int) (j : Nat) : (kept F (j + 1)).getLast? = some (F j) := by
  unfold kept; rw [compactL_last, List.range_succ, List.map_append]; simp
theorem kept_one (F : Nat → Int × Int) : kept F 1 = [F 0] := rfl
theorem kept_eq (F : Nat → Int × Int) (j : Nat) (h : F (j + 1) = F j) : kept F (j + 2) = kept F (j + 1) := by
  rw [kept_succ]; unfold compStep; rw [kept_last, if_pos (by rw [h])]
theorem kept_ne (F : Nat → Int × Int) (j : Nat) (h : F (j + 1) ≠ F j) : kept F (j + 2) = kept F (j + 1) ++ [F (j + 1)] := by
  rw [kept_succ]; unfold compStep; rw [kept_last, if_neg (by intro e; injection e with e; exact h e.symm)]
theorem kept_all (F : Nat → Int × Int) (j : Nat) (h : ∀ i, i < j → F (i + 1) ≠ F i) : kept F (j + 1) = (List.range (j + 1)).map F := by
  induction j with
  | zero => rfl
  | succ j ih => rw [kept_ne F j (h j (by omega)), ih (fun i hi => h i (by omega)), List.range_succ (n := j + 1), List.map_append]; rfl
theorem kept_len (F : Nat → Int × Int) (j : Nat) : (kept F j).length ≤ j := by
  induction j with
  | zero => simp [kept, compactL]
  | succ j ih => rw [kept_succ]; unfold compStep; split <;> first | omega | (simp; omega)

/-- What Compact leaves: the slice cut to what is kept. -/
def CompPost (w : World) (b off n cap : Nat) (F : Nat → Int × Int) (e : Ending) (w' : World) : Prop :=
  ∃ m F', e = .returned (.slice (some ⟨b, off, none⟩) m cap) ∧ m ≤ n ∧ (List.range m).map F' = kept F n ∧ RowC w' 50 b off n F' ∧ Mod (fun k => k = b) w w'

set_option maxHeartbeats 1600000 in
theorem compact_any (w : World) (b off n cap : Nat) (F : Nat → Int × Int) (h : RowC w 50 b off n F) (hnc : n ≤ cap) (hcap : cap ≤ maxLen) (h2 : 2 ≤ n) :
    Calls Tryd.prog 31 #[.slice (some ⟨b, off, none⟩) n cap] w (CompPost w b off n cap F) := by
  unfold maxLen at hcap
  go_enter Tryd.func31, Tryd.ntmps31
  go_wp2
  go_loopw [3] (fun iv wx => ∃ (p d : Nat), p + 1 ≤ n ∧ iv = .int .i64 ((p : Int) + 1) ∧ wx = w.drewN d ∧ ∀ j, j < p → F (j + 1) ≠ F j) (fun iv _ => n - (intOf iv).toNat)
  case atStart => exact ⟨0, 0, by omega, rfl, rfl, fun j hj => absurd hj (by omega)⟩
  case round =>
    obtain ⟨p, d, hp, rfl, rfl, hne⟩ := hrel
    have HNE := Lib.hid hne
    have HR := Lib.hid (h.drewN d)
    clear hne
    by_cases hlt : p + 1 < n
    · have c1 : w.cell? ⟨b, off + p * 2, none⟩ = some (.int .i64 (F p).1) := h.cell1 (by omega)
      have c2 : w.cell? ⟨b, off + p * 2 + 1, none⟩ = some (.int .i64 (F p).2) := h.cell2 (by omega)
      have c3 : w.cell? ⟨b, off + (p + 1) * 2, none⟩ = some (.int .i64 (F (p + 1)).1) := h.cell1 hlt
      have c4 : w.cell? ⟨b, off + (p + 1) * 2 + 1, none⟩ = some (.int .i64 (F (p + 1)).2) := h.cell2 hlt
      by_cases he : F (p + 1) = F p
      · have hq : ∀ w, _ := fun w => run_eqC (F (p + 1)) (F p) w
        rw [(eqC_true _ _).2 he] at hq
        have HE := Lib.hid he
        clear he
        go_wp2_with fail
        go_quiet (fail)
        go_wp2_with fail
        generalize hw1 : World.drewN w _ = w1
        have HR1 : Hid (RowC w1 50 b off n F) := by subst hw1; exact h.drewN _
        have HM1 : Hid (Mod (fun k => k = b) w w1) := by subst hw1; exact (Mod.refl _ w).drewN _
        clear hw1 c1 c2 c3 c4 hq
        go_loopw [3, 5] (fun iv kv wx => ∃ (m q : Nat) (G : Nat → Int × Int), iv = .int .i64 m ∧ kv = .int .i64 ((q : Int) + 1) ∧ p + 1 + q < n ∧ m ≤ p + 1 + q ∧ (List.range m).map G = kept F (p + 1 + q + 1) ∧
          (∀ j, p + 1 + q ≤ j → G j = F j) ∧ RowC wx 50 b off n G ∧ Mod (fun k => k = b) w wx) (fun _ kv _ => n - (intOf kv).toNat)
        case atStart => exact ⟨p + 1, 0, F, by go_num, rfl, by omega, Nat.le_refl _, by rw [kept_eq F p HE.out, kept_all F p HNE.out], fun _ _ => rfl, HR1.out, HM1.out⟩
        case round =>
          obtain ⟨m, q, G, rfl, rfl, hq, hm, hk, hG, hR, hM⟩ := hrel
          have HK := Lib.hid hk
          have HG := Lib.hid hG
          have HR2 := Lib.hid hR
          have HM2 := Lib.hid hM
          clear hk hG hM
          by_cases hlt2 : p + 1 + q + 1 < n
          · have c1 : wr.cell? ⟨b, off + (p + 1) * 2 + q * 2, none⟩ = some (.int .i64 (F (p + 1 + q)).1) := by
              have := hR.cell1 (i := p + 1 + q) (by omega); rw [HG.out _ (Nat.le_refl _)] at this
              rwa [show off + (p + 1) * 2 + q * 2 = off + (p + 1 + q) * 2 by omega]
            have c2 : wr.cell? ⟨b, off + (p + 1) * 2 + q * 2 + 1, none⟩ = some (.int .i64 (F (p + 1 + q)).2) := by
              have := hR.cell2 (i := p + 1 + q) (by omega); rw [HG.out _ (Nat.le_refl _)] at this
              rwa [show off + (p + 1) * 2 + q * 2 = off + (p + 1 + q) * 2 by omega]
            have c3 : wr.cell? ⟨b, off + (p + 1) * 2 + (q + 1) * 2, none⟩ = some (.int .i64 (F (p + 1 + q + 1)).1) := by
              have := hR.cell1 (i := p + 1 + q + 1) (by omega); rw [HG.out _ (by omega)] at this
              rwa [show off + (p + 1) * 2 + (q + 1) * 2 = off + (p + 1 + q + 1) * 2 by omega]
            have c4 : wr.cell? ⟨b, off + (p + 1) * 2 + (q + 1) * 2 + 1, none⟩ = some (.int .i64 (F (p + 1 + q + 1)).2) := by
              have := hR.cell2 (i := p + 1 + q + 1) (by omega); rw [HG.out _ (by omega)] at this
              rwa [show off + (p + 1) * 2 + (q + 1) * 2 = off + (p + 1 + q + 1) * 2 by omega]
            by_cases he2 : F (p + 1 + q + 1) = F (p + 1 + q)
            · have hqe : ∀ w, _ := fun w => run_neC (F (p + 1 + q + 1)) (F (p + 1 + q)) w
              rw [(eqC_true _ _).2 he2] at hqe
              have HE2 := Lib.hid he2
              clear he2 hR
              go_wp2_with fail
              go_quiet (fail)
              go_wp2
              go_roundw
              case rel => exact ⟨m, q + 1, G, rfl, by go_num, by omega, by omega, by rw [HK.out]; exact (kept_eq F (p + 1 + q) HE2.out).symm, fun j hj => HG.out j (by omega), HR2.out.drewN _, HM2.out.drewN _⟩
              case measure => simp [intOf]; omega
            · have hqe : ∀ w, _ := fun w => run_neC (F (p + 1 + q + 1)) (F (p + 1 + q)) w
              rw [(eqC_false _ _).2 he2] at hqe
              have HE2 := Lib.hid he2
              clear he2
              go_wp2_with fail
              go_quiet (fail)
              go_upto_region 12 with fail
              generalize hw2 : World.drewN wr _ = w2
              have hR3 : RowC w2 50 b off n G := by subst hw2; exact HR2.out.drewN _
              have HM3 : Hid (Mod (fun k => k = b) w w2) := by subst hw2; exact HM2.out.drewN _
              have HR3 := Lib.hid hR3
              have d1 : w2.cell? ⟨b, off + m * 2, none⟩ = some (.int .i64 (G m).1) := hR3.cell1 (by omega)
              have d2 : w2.cell? ⟨b, off + m * 2 + 1, none⟩ = some (.int .i64 (G m).2) := hR3.cell2 (by omega)
              have d3 : w2.frozen? ⟨b, off + m * 2, none⟩ = false := hR3.frozen _
              have d4 : w2.frozen? ⟨b, off + m * 2 + 1, none⟩ = false := hR3.frozen _
              have c3 : w2.cell? ⟨b, off + (p + 1) * 2 + (q + 1) * 2, none⟩ = some (.int .i64 (F (p + 1 + q + 1)).1) := by subst hw2; exact c3
              have c4 : w2.cell? ⟨b, off + (p + 1) * 2 + (q + 1) * 2 + 1, none⟩ = some (.int .i64 (F (p + 1 + q + 1)).2) := by subst hw2; exact c4
              clear hw2 hR hR3
              go_wp2
              go_roundw
              case rel =>
                refine ⟨m + 1, q + 1, fun j => if j = m then ((F (p + 1 + q + 1)).1, (F (p + 1 + q + 1)).2) else G j, by go_num, by go_num, by omega, by omega, ?_, fun j hj => ?_, HR3.out.set (by omega) _ _, (HM3.out.set (fun _ => rfl) _).set (fun _ => rfl) _⟩
                · rw [show p + 1 + (q + 1) + 1 = p + 1 + q + 2 by omega, kept_ne F (p + 1 + q) HE2.out, ← HK.out, List.range_succ, List.map_append]
                  congr 1
                  · apply List.map_congr_left; intro j hj; simp at hj; rw [if_neg (by omega)]
                  · simp
                · show (if j = m then _ else G j) = F j; rw [if_neg (by omega)]; exact HG.out j (by omega)
              case measure => simp [intOf]; omega
          · have hnn : p + 1 + q + 1 = n := by omega
            have HNN := Lib.hid hnn
            have hrun := run_clear_cells wr 0 hR (i := m) (k := n - m) (c := cap - m) (by omega) (by omega)
            have HRUN := Lib.hid hrun
            have ht : ¬ ((q : Int) + 1 < ((n - (p + 1) : Nat) : Int)) := by omega
            clear hnn hR hrun hlt2
            go_wp2_with ((with_reducible refine wpList_clear rfl (.tmp 56) 22 rfl ?_ HRUN.out ?_); exact rfl)
            go_ret
            refine ⟨m, _, rfl, by omega, ?_, HR2.out.zeros (n - m) m (by omega), mod_setCells b _ _ wr w _ HM2.out (fun _ => rfl)⟩
            rw [show n = p + 1 + q + 1 from HNN.out.symm, ← HK.out]
            apply List.map_congr_left; intro j hj; simp at hj
            show (if m ≤ j ∧ j < m + _ then _ else G j) = G j
            rw [if_neg (by omega)]
      · have hq : ∀ w, _ := fun w => run_eqC (F (p + 1)) (F p) w
        rw [(eqC_false _ _).2 he] at hq
        have HE := Lib.hid he
        clear he
        go_wp2_with fail
        go_quiet (fail)
        go_wp2
        go_roundw
        case rel => exact ⟨p + 1, _, by omega, by go_num, rfl, fun j hj => by rcases Nat.lt_or_ge j p with a | a; exact HNE.out j a; (obtain rfl : j = p := by omega); exact HE.out⟩
        case measure => simp [intOf]; omega
    · obtain rfl : p + 1 = n := by omega
      go_wp2
      go_ret
      exact ⟨p + 1, F, rfl, Nat.le_refl _, (kept_all F p HNE.out).symm, HR.out, (Mod.refl _ w).drewN _⟩
end Go.Proofs.YtlcjadgaommfmaaDoor
