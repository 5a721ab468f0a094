/- A request as an argument: what a row's precondition says of it. -/
import Derived.Test.YtkandepkojfblaaDoorSpDoor
namespace Go.Proofs.YtkandepkojfblaaDoor
open Go.ChangeShapes Go.WideShapes Go.ChangeAt Go.RowKit Go.ChangeMaps

theorem Tryd.reqS : ∃ f0 f1 f2 f3 f4 f5, Tryd.prog.underlying 34 = some (.struct #[f0, f1, f2, f3, f4, f5]) ∧ (f0.offset = 0 ∧ f1.offset = 1 ∧ f2.offset = 2 ∧ f3.offset = 3 ∧ f4.offset = 5 ∧ f5.offset = 6) ∧ (f0.type = 3 ∧ f1.type = 9 ∧ f2.type = 9 ∧ f3.type = 31 ∧ f4.type = 3 ∧ f5.type = 32) := by
  exact ⟨_, _, _, _, _, _, Tryd.underlying34, ⟨rfl, rfl, rfl, rfl, rfl, rfl⟩, rfl, rfl, rfl, rfl, rfl, rfl⟩
theorem Tryd.ruleS' : ∃ f0 f1, Tryd.prog.underlying 31 = some (.struct #[f0, f1]) ∧ f0.offset = 0 ∧ f1.offset = 1 ∧ f0.type = 3 ∧ f1.type = 3 := by
  exact ⟨_, _, Tryd.underlying31, rfl, rfl, rfl, rfl⟩
theorem Tryd.cellsReq : Tryd.prog.cellsOf 34 = 7 := by kernel_rfl
theorem Tryd.cellsRule' : Tryd.prog.cellsOf 31 = 2 := by kernel_rfl
theorem Tryd.cellsStr : Tryd.prog.cellsOf 9 = 1 := by kernel_rfl
theorem Tryd.cellsSl : Tryd.prog.cellsOf 32 = 1 := by kernel_rfl

set_option maxRecDepth 100000 in
theorem cells_of_trod {H : Type} {enc : TypeId × Value → H} {W : World} {v : Value} {fuel : Nat} {x : DataW H × List MemPlace}
    (hf : DataW.trod enc Tryd.prog W 0 (fun _ => true) true fuel 32 [v] = some x) :
    ∃ (n : Nat) (l : List (Int × Int)), Rd W W.heap.size 2 v n (flat l) ∧ (∀ c ∈ l, inC c) ∧ (n = 0 ∨ ∃ elems rest, x.1 = .slice elems rest ∧ elems.length = n) := by
  obtain ⟨f0, f1, hu, o0, o1, t0, t1⟩ := Tryd.cellS
  rcases open_two Tryd.underlying32 hu o0 o1 (by rw [t0]; exact Tryd.cellsInt) (by rw [t1]; exact Tryd.cellsInt) Tryd.cellsCell hf with hcs | ⟨a, len, cap, hcs, hl, hm, hi⟩
  · injection hcs with hcs
    subst hcs
    exact ⟨0, [], ⟨rfl, _, _, rfl, Nat.le_refl _, Nat.zero_le _, fun h => absurd h (Nat.lt_irrefl _)⟩, by simp, .inl rfl⟩
  · injection hcs with hcs
    subst hcs
    have hlen := slice_len Tryd.underlying32 (a := a) (len := len) (cap := cap) hf
    have key : ∀ i, ∃ x : Int × Int, (i < len → W.cell? (a.add (i * 2)) = some (.int .i64 x.1) ∧ W.cell? ((a.add (i * 2)).add 1) = some (.int .i64 x.2)) ∧ inC x := by
      intro i
      by_cases hil : i < len
      · obtain ⟨v0, v1, n, y0, y1, c0, c1, g0, g1⟩ := hi i hil
        rw [t0] at g0
        rw [t1] at g1
        obtain ⟨m0, e0, _, wf0⟩ := DataW.trod_int Tryd.underlying3 g0
        obtain ⟨m, e1, _, wf⟩ := DataW.trod_int Tryd.underlying3 g1
        simp at e0 e1
        subst e0 e1
        have hb0 : -9223372036854775808 ≤ m0 ∧ m0 ≤ 9223372036854775807 := by simpa [Lit.wf, IntKind.min, IntKind.max, IntKind.signed, IntKind.bits] using wf0
        have hb : -9223372036854775808 ≤ m ∧ m ≤ 9223372036854775807 := by simpa [Lit.wf, IntKind.min, IntKind.max, IntKind.signed, IntKind.bits] using wf
        exact ⟨(m0, m), fun _ => ⟨c0, c1⟩, hb0, hb⟩
      · exact ⟨(0, 0), fun h => absurd h hil, by unfold inC; decide⟩
    obtain ⟨f, hfx⟩ := Classical.axiomOfChoice key
    have hg : ∀ i, i < len → ((List.range len).map f)[i]! = f i := fun i hi => by simp [List.getElem!_eq_getElem?_getD, List.getElem?_map, List.getElem?_range hi]
    refine ⟨len, (List.range len).map f, ⟨by rw [flat_length]; simp, _, _, rfl, by omega, hm, fun hn => ?_⟩, ?_, .inr hlen⟩
    · obtain ⟨b, off, spot⟩ := a
      have c0 := ((hfx 0).1 hn).1
      have hspot : spot = none := by simpa [Addr.add] using World.cell?_spot c0
      subst hspot
      refine ⟨b, off, rfl, by simpa [Addr.add] using World.block_lt_of_cell? W _ c0, flat_of_cells W b off _ fun i hil => ?_⟩
      have hil' : i < len := by simpa using hil
      obtain ⟨k0, k1⟩ := (hfx i).1 hil'
      rw [Addr.add_lit] at k0 k1
      rw [Addr.add_lit] at k1
      rw [hg i hil']
      exact ⟨k0, k1⟩
    · intro c hc
      simp only [List.mem_map] at hc
      obtain ⟨i, _, rfl⟩ := hc
      exact (hfx i).2

theorem bulk_all_mem {H : Type} {d : DataW H} : ∀ {l : List (DataW H)}, d ∈ l → Rows.uptoBulk d ≤ Rows.uptoBulkAll l
  | a :: r, h => by
    rw [List.mem_cons] at h
    rw [Rows.uptoBulkAll]
    rcases h with rfl | h
    · omega
    · have := bulk_all_mem h; omega
theorem one_bulk {H : Type} (d : DataW H) : 1 ≤ Rows.uptoBulk d := by
  cases d with
  | lit l => cases l <;> simp [Rows.uptoBulk]
  | nil => simp [Rows.uptoBulk]
  | ptr d => simp [Rows.uptoBulk]
  | slice elems spare => simp [Rows.uptoBulk]
  | agg parts => simp [Rows.uptoBulk]
  | iface t d => simp [Rows.uptoBulk]
  | map entries => simp [Rows.uptoBulk]
  | held h => simp [Rows.uptoBulk]
theorem bulk_count {H : Type} : ∀ l : List (DataW H), l.length ≤ Rows.uptoBulkAll l
  | [] => by simp
  | a :: r => by rw [Rows.uptoBulkAll, List.length_cons]; have := bulk_count r; have := one_bulk a; omega

set_option maxRecDepth 100000 in
/-- A request of bulk at most 1048576. -/
theorem req_of {H : Type} {enc : TypeId × Value → H} {W : World} {base : Nat} {v : Value} {d : DataW H} {p : List MemPlace}
    (hv : Value.okWide Tryd.prog W .any base 34 v) (h : DataW.Trod enc Tryd.prog W 0 (fun _ => true) true 34 v d p) (hk : Rows.uptoBulk d ≤ 1048576) :
    ∃ (q : SReq) (u : Value), v = reqV q u ∧ SFit q ∧ Rd W W.heap.size 2 u q.cells.length (flat q.cells) ∧ q.cells.length ≤ 1048576 := by
  obtain ⟨f0, f1, f2, f3, f4, f5, hu, ⟨o0, o1, o2, o3, o4, o5⟩, t0, t1, t2, t3, t4, t5⟩ := Tryd.reqS
  obtain ⟨cs, rfl, hsz⟩ := okWide_struct hu hv
  rw [Tryd.cellsReq] at hsz
  obtain ⟨fuel, hf⟩ := h
  obtain ⟨ys, n', _, hy, _, hyl, hfs⟩ := DataW.trod_struct hu hf
  have hcs : ∃ x0 x1 x2 x3 x4 x5 x6, cs = #[x0, x1, x2, x3, x4, x5, x6] := by
    obtain ⟨l⟩ := cs
    match l, hsz with
    | [x0, x1, x2, x3, x4, x5, x6], _ => exact ⟨_, _, _, _, _, _, _, rfl⟩
  obtain ⟨x0, x1, x2, x3, x4, x5, x6, rfl⟩ := hcs
  match ys, hyl with
  | [y0, y1, y2, y3, y4, y5], _ =>
    have hd : d = .agg [y0.1, y1.1, y2.1, y3.1, y4.1, y5.1] := congrArg Prod.fst hy
    have g0 := hfs 0 f0 rfl
    have g1 := hfs 1 f1 rfl
    have g2 := hfs 2 f2 rfl
    have g3 := hfs 3 f3 rfl
    have g4 := hfs 4 f4 rfl
    have g5 := hfs 5 f5 rfl
    rw [o0, t0, Tryd.cellsInt] at g0
    rw [o1, t1, Tryd.cellsStr] at g1
    rw [o2, t2, Tryd.cellsStr] at g2
    rw [o3, t3, Tryd.cellsRule'] at g3
    rw [o4, t4, Tryd.cellsInt] at g4
    rw [o5, t5, Tryd.cellsSl] at g5
    simp only [Value.cells, List.drop_zero, List.take_succ_cons, List.take_zero, List.drop_succ_cons, List.getElem?_cons_zero, List.getElem?_cons_succ] at g0 g1 g2 g3 g4 g5
    obtain ⟨m0, e0, _, wf0⟩ := DataW.trod_int Tryd.underlying3 g0
    obtain ⟨s1, e1, b1, _⟩ := DataW.trod_string Tryd.underlying9 g1
    obtain ⟨s2, e2, b2, _⟩ := DataW.trod_string Tryd.underlying9 g2
    obtain ⟨m4, e4, _, wf4⟩ := DataW.trod_int Tryd.underlying3 g4
    obtain ⟨k0, k1, hur, ko0, ko1, kt0, kt1⟩ := Tryd.ruleS'
    obtain ⟨zs, n2, _, hz, _, hzl, hzf⟩ := DataW.trod_struct hur g3
    match zs, hzl with
    | [z0, z1], _ =>
      have r0 := hzf 0 k0 rfl
      have r1 := hzf 1 k1 rfl
      rw [ko0, kt0, Tryd.cellsInt] at r0
      rw [ko1, kt1, Tryd.cellsInt] at r1
      simp only [List.drop_zero, List.take_succ_cons, List.take_zero, List.drop_succ_cons, List.getElem?_cons_zero, List.getElem?_cons_succ] at r0 r1
      obtain ⟨mb, eb, _, wfb⟩ := DataW.trod_int Tryd.underlying3 r0
      obtain ⟨ml, el, _, wfl⟩ := DataW.trod_int Tryd.underlying3 r1
      obtain ⟨n, l, hR, hin, hn⟩ := cells_of_trod g5
      simp at e0 e1 e2 e4 eb el
      subst e0 e1 e2 e4 eb el
      have hln : l.length = n := by have := hR.1; rw [flat_length] at this; omega
      subst hln
      have w0 : -9223372036854775808 ≤ m0 ∧ m0 ≤ 9223372036854775807 := by simpa [Lit.wf, IntKind.min, IntKind.max, IntKind.signed, IntKind.bits] using wf0
      have w4 : -9223372036854775808 ≤ m4 ∧ m4 ≤ 9223372036854775807 := by simpa [Lit.wf, IntKind.min, IntKind.max, IntKind.signed, IntKind.bits] using wf4
      have wb : -9223372036854775808 ≤ mb ∧ mb ≤ 9223372036854775807 := by simpa [Lit.wf, IntKind.min, IntKind.max, IntKind.signed, IntKind.bits] using wfb
      have wl : -9223372036854775808 ≤ ml ∧ ml ≤ 9223372036854775807 := by simpa [Lit.wf, IntKind.min, IntKind.max, IntKind.signed, IntKind.bits] using wfl
      have hba : Rows.uptoBulkAll [y0.1, y1.1, y2.1, y3.1, y4.1, y5.1] ≤ 1048576 := by rw [hd] at hk; rw [Rows.uptoBulk] at hk; omega
      have h1 : Rows.uptoBulk y1.1 ≤ 1048576 := Nat.le_trans (bulk_all_mem (by simp)) hba
      have h2 : Rows.uptoBulk y2.1 ≤ 1048576 := Nat.le_trans (bulk_all_mem (by simp)) hba
      have h5 : Rows.uptoBulk y5.1 ≤ 1048576 := Nat.le_trans (bulk_all_mem (by simp)) hba
      rw [b1] at h1
      rw [b2] at h2
      simp only [Rows.uptoBulk] at h1 h2
      have hcl : l.length ≤ 1048576 := by
        rcases hn with h0 | ⟨elems, rest, e, he⟩
        · omega
        · rw [e, Rows.uptoBulk] at h5
          have := bulk_count elems
          omega
      have hs1 : str s1.data.toList = s1 := by simp [str]
      have hs2 : str s2.data.toList = s2 := by simp [str]
      refine ⟨⟨m0, s1.data.toList, s2.data.toList, mb, ml, m4, l⟩, x6, ?_, ⟨w0, wb, wl, w4, fun c hc => hin c hc, by dsimp only; omega, by dsimp only; omega, by dsimp only; omega⟩, hR, hcl⟩
      unfold reqV
      dsimp only
      rw [hs1, hs2]
end Go.Proofs.YtkandepkojfblaaDoor
