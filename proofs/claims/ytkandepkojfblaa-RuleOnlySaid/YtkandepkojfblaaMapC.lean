/- Maps keyed by cells: map[api.Cell]int that is counted up ('m[c] += d'), map[api.Cell]struct{}. -/
import Derived.Test.YtkandepkojfblaaCells
import Derived.Test.YtkandepkojfblaaLife
import Derived.DeepKeys4
import Derived.WideKeyEntry
import Derived.Maps.OwnSet
import Derived.Maps.RangeWalk
namespace Go.Proofs.Ytkandepkojfblaa
open Go.RowKit Go.ChangeMaps Go.WideElems Go.WideMaps

theorem Try.klCell : KeyLaw Try.prog 41 := deep_law_laid Try.laidOutC (m := 2) (by omega) (of_decide_eq_true (by kernel_rfl)) (by kernel_rfl) (by rw [Try.underlying41])
theorem Try.lawCell : Maps.Keyed Try.prog 41 := Maps.Keyed.of_law Try.klCell
theorem Try.zeroInt (w : World) : (zeroValue 3).run Try.prog w = .ok (.int .i64 0) w := by kernel_rfl
theorem Try.zeroUnit (w : World) : (zeroValue 53).run Try.prog w = .ok (.agg #[]) w := by kernel_rfl
theorem Try.keyTypeCell : Try.prog.keyType 41 = true := by kernel_rfl
theorem Try.cellFields : ∃ f0 f1, Try.prog.underlying 41 = some (.struct #[f0, f1]) ∧ f0.offset = 0 ∧ f1.offset = 1 ∧ f0.type = 3 ∧ f1.type = 3 ∧ (f0.name != "_") = true ∧ (f1.name != "_") = true := by
  exact ⟨_, _, Try.underlying41, rfl, rfl, rfl, rfl, by decide, by decide⟩
theorem Try.typesSize : ∃ m, Try.prog.types.size = m + 1 := ⟨Try.prog.types.size - 1, by have : 0 < Try.prog.types.size := of_decide_eq_true (by kernel_rfl); omega⟩

/-- A cell as a value; what it reads as. -/
def cellV (c : Int × Int) : Value := .agg #[.int .i64 c.1, .int .i64 c.2]
def kc (c : Int × Int) : Lit := .string (keyBytes [.int .i64 c.1, .int .i64 c.2])
theorem inC_wf {c : Int × Int} (h : inC c) : (Lit.int .i64 c.1).wf = true ∧ (Lit.int .i64 c.2).wf = true := by
  obtain ⟨⟨a, b⟩, d, e⟩ := h
  constructor
  · simp [Lit.wf, IntKind.min, IntKind.max, IntKind.signed, IntKind.bits]; omega
  · simp [Lit.wf, IntKind.min, IntKind.max, IntKind.signed, IntKind.bits]; omega
theorem wf_inC {c : Int × Int} (h1 : (Lit.int .i64 c.1).wf = true) (h2 : (Lit.int .i64 c.2).wf = true) : inC c := by
  simp [Lit.wf, IntKind.min, IntKind.max, IntKind.signed, IntKind.bits] at h1 h2
  exact ⟨by omega, by omega⟩
theorem keyOf_cell {c : Int × Int} (h : inC c) : keyOf Try.prog 41 (cellV c) = some (kc c) := by
  obtain ⟨w1, w2⟩ := inC_wf h
  obtain ⟨f0, f1, hu, o0, o1, t0, t1, n0, n1⟩ := Try.cellFields
  obtain ⟨m, hm⟩ := Try.typesSize
  unfold keyOf cellV
  rw [hu]
  simp only
  rw [if_pos (by simp [Try.keyTypeCell, Value.formed, hu, Try.cellsCell]), hm]
  unfold Program.keyLits
  simp only [hu, Value.cells]
  rw [if_pos ⟨by rw [Try.cellsCell]; rfl, by simp only [List.all_toArray, List.all_cons, List.all_nil, n0, n1]; rfl⟩]
  simp only [List.mapM_cons, List.mapM_nil, o0, o1, t0, t1, Try.cellsInt]
  simp [Program.keyLits, Try.underlying3, w1, w2, kc]
theorem keyLits_int {P : Program} {t : TypeId} (hu : P.underlying t = some (.int .i64)) {d : Nat} {v : Value} {ls : List Lit} (h : P.keyLits d t [v] = some ls) : ∃ x, v = .int .i64 x ∧ ls = [.int .i64 x] ∧ (Lit.int .i64 x).wf = true := by
  cases d with
  | zero => simp [Program.keyLits] at h
  | succ d =>
    unfold Program.keyLits at h
    rw [hu] at h
    cases v <;> simp at h
    obtain ⟨⟨rfl, hw⟩, rfl⟩ := h
    exact ⟨_, rfl, rfl, hw⟩
theorem two_of {l : List Value} (h : l.length = 2) : ∃ a b, l = [a, b] := by
  match l, h with
  | [a, b], _ => exact ⟨a, b, rfl⟩
theorem keyOf_cell_inv {key : Value} {kl : Lit} (h : keyOf Try.prog 41 key = some kl) : ∃ c, inC c ∧ key = cellV c ∧ kl = kc c := by
  obtain ⟨f0, f1, hu, o0, o1, t0, t1, n0, n1⟩ := Try.cellFields
  obtain ⟨m, hm⟩ := Try.typesSize
  unfold keyOf at h
  rw [hu] at h
  simp only at h
  split at h
  · rename_i hf
    rw [hm] at h
    unfold Program.keyLits at h
    simp only [hu] at h
    split at h
    · rename_i hl
      rw [Try.cellsCell] at hl
      simp only [List.mapM_cons, List.mapM_nil, o0, o1, t0, t1, Try.cellsInt] at h
      have hform : key.formed Try.prog 41 = true := by rw [Bool.and_eq_true] at hf; exact hf.2
      obtain ⟨a, b, hab⟩ := two_of hl.1
      rw [hab] at h
      have hkey : key = .agg #[a, b] := by
        cases key <;> simp [Value.formed, hu] at hform
        rename_i cs
        have : cs.toList = [a, b] := hab
        rw [← Array.toArray_toList (xs := cs), this]
      simp only [List.take_succ_cons, List.take_zero, List.drop_succ_cons, List.drop_zero] at h
      cases h1 : Try.prog.keyLits (m + 1) 3 [a] with
      | none => rw [h1] at h; simp at h
      | some l1 =>
        cases h2 : Try.prog.keyLits (m + 1) 3 [b] with
        | none => rw [h1, h2] at h; simp at h
        | some l2 =>
          rw [h1, h2] at h
          obtain ⟨x, rfl, rfl, wx⟩ := keyLits_int Try.underlying3 h1
          obtain ⟨y, rfl, rfl, wy⟩ := keyLits_int Try.underlying3 h2
          simp at h
          exact ⟨(x, y), wf_inC wx wy, hkey, h.symm⟩
    · simp at h
  · simp at h
theorem kc_inj {a b : Int × Int} (ha : inC a) (hb : inC b) (h : kc a = kc b) : a = b := by
  have := Try.lawCell.inj (keyOf_cell ha) (h ▸ keyOf_cell hb)
  unfold cellV at this
  injection this with this
  injection this with this
  injection this with e1 this
  injection this with e2 _
  injection e1 with _ e1
  injection e2 with _ e2
  exact Prod.ext e1 e2
theorem kc_ne {a b : Int × Int} (ha : inC a) (hb : inC b) (h : a ≠ b) : kc a ≠ kc b := fun e => h (kc_inj ha hb e)
/-- Block b is a map that has counted these increments. -/
def MapN (w : World) (b n : Nat) (inc : List Inc) : Prop :=
  ∃ D : DataW Unit, w.ownsMap Try.prog 41 (plainElem Try.prog 3) b n D ∧ (∀ c, inC c → Maps.has D (kc c) = hasAt inc c) ∧ ∀ c, inC c → D.atKey (kc c) (.lit (.int .i64 0)) = .lit (.int .i64 (sumAt inc c))
/-- Block b is the set of these cells. -/
def MapS (w : World) (b n : Nat) (l : List (Int × Int)) : Prop :=
  ∃ D : DataW Unit, w.ownsMap Try.prog 41 unitElem b n D ∧ ∀ c, inC c → Maps.has D (kc c) = decide (c ∈ l)

theorem ownsMap_block {H : Type} {P : Program} {k : TypeId} {R : Value → Option (DataW H × List MemPlace)} {w w' : World} {b n : Nat} {D : DataW H} (h : w.ownsMap P k R b n D) (e : w'.heap[b]? = w.heap[b]?) : w'.ownsMap P k R b n D := by
  obtain ⟨es, clock, hb, F, hs, hD⟩ := h
  exact ⟨es, clock, e.trans hb, F, hs, hD⟩
section
variable {w w' : World} {b n : Nat} {inc : List Inc} {l : List (Int × Int)}
theorem MapN.of_block (h : MapN w b n inc) (e : w'.heap[b]? = w.heap[b]?) : MapN w' b n inc := by obtain ⟨D, h1, h2⟩ := h; exact ⟨D, ownsMap_block h1 e, h2⟩
theorem MapS.of_block (h : MapS w b n l) (e : w'.heap[b]? = w.heap[b]?) : MapS w' b n l := by obtain ⟨D, h1, h2⟩ := h; exact ⟨D, ownsMap_block h1 e, h2⟩
theorem MapN.lt (h : MapN w b n inc) : b < w.heap.size := by obtain ⟨D, h1, _⟩ := h; exact h1.lt
theorem MapS.lt (h : MapS w b n l) : b < w.heap.size := by obtain ⟨D, h1, _⟩ := h; exact h1.lt
theorem MapN.alloc (h : MapN w b n inc) (o : Obj) : MapN (w.alloc o) b n inc := h.of_block (Below.heap_alloc w o b h.lt)
theorem MapS.alloc (h : MapS w b n l) (o : Obj) : MapS (w.alloc o) b n l := h.of_block (Below.heap_alloc w o b h.lt)
theorem MapN.drewN (h : MapN w b n inc) (k : Nat) : MapN (w.drewN k) b n inc := h.of_block rfl
theorem MapS.drewN (h : MapS w b n l) (k : Nat) : MapS (w.drewN k) b n l := h.of_block rfl
theorem MapN.made (w : World) : MapN (w.alloc (.map #[] 0)) w.heap.size 0 [] := ⟨_, World.ownsMap_made w _ _ _, fun _ _ => rfl, fun _ _ => rfl⟩
theorem MapS.made (w : World) : MapS (w.alloc (.map #[] 0)) w.heap.size 0 [] := ⟨_, World.ownsMap_made w _ _ _, fun c _ => by simp [Maps.has]⟩
theorem isKey_kc (c : Int × Int) : WideAt.IsKeyLit (kc c) := trivial

theorem turned_mod {w w' : World} {b : Nat} (h : w.mapTurned w' b) : Mod (fun k => k = b) w w' := by
  have hg := h.grown
  exact ⟨hg.os, hg.tape, hg.output, hg.size, fun k hk hn => hg.block k hk (by simpa using hn)⟩

theorem MapN.step {D : DataW Unit} (hD : Maps.IsMap D) (h1 : ∀ c, inC c → Maps.has D (kc c) = hasAt inc c) (h2 : ∀ c, inC c → D.atKey (kc c) (.lit (.int .i64 0)) = .lit (.int .i64 (sumAt inc c))) {c : Int × Int} (hc : inC c) (d : Int) :
    (∀ e, inC e → Maps.has (D.put (kc c) (.lit (.int .i64 (sumAt inc c + d)))) (kc e) = hasAt (inc ++ [(c, d)]) e) ∧ ∀ e, inC e → (D.put (kc c) (.lit (.int .i64 (sumAt inc c + d)))).atKey (kc e) (.lit (.int .i64 0)) = .lit (.int .i64 (sumAt (inc ++ [(c, d)]) e)) := by
  refine ⟨fun e he => ?_, fun e he => ?_⟩
  · rw [hasAt_append, hasAt_one]
    by_cases hce : c = e
    · subst hce
      rw [Maps.has_put_same hD (isKey_kc c)]; simp
    · rw [Maps.has_put_other (kc_ne he hc (Ne.symm hce)), h1 e he]
      simp [hce]
  · rw [sumAt_append, sumAt_one]
    by_cases hce : c = e
    · subst hce
      rw [Maps.atKey_put_same hD (isKey_kc c), if_pos rfl]
    · rw [Maps.atKey_put_other (kc_ne he hc (Ne.symm hce)), h2 e he, if_neg hce, Int.add_zero]

theorem lit_int {H : Type} {a b : Int} (h : (DataW.lit (.int .i64 a) : DataW H) = .lit (.int .i64 b)) : a = b := by injection h with h; injection h
/-- 'm[c] += d', operation by operation. -/
theorem MapN.add (h : MapN w b n inc) {c : Int × Int} (hc : inC c) (hn : n < maxLen) (_hw : (Lit.int .i64 (sumAt inc c)).wf = true) :
    ∃ st w1, (Instr.lookup 51 (.map (some b)) (cellV c) false).run Try.prog w = .ok (.int .i64 (sumAt inc c)) w ∧
      (Instr.mapEntry 51 (.map (some b)) (cellV c)).run Try.prog w = .ok (.tuple #[.int .i64 (sumAt inc c), .int .i64 st]) w1 ∧
      (Instr.lookup 51 (.map (some b)) (cellV c) false).run Try.prog w1 = .ok (.int .i64 (sumAt inc c)) w1 ∧
      ∀ d, (Lit.int .i64 (sumAt inc c + d)).wf = true → ∃ w2, (Instr.entryStore 51 (.map (some b)) (.int .i64 st) (.int .i64 (sumAt inc c + d))).run Try.prog w1 = .ok () w2 ∧
        MapN w2 b (n + 1) (inc ++ [(c, d)]) ∧ Mod (fun k => k = b) w w2 := by
  obtain ⟨D, hown, h1, h2⟩ := h
  have hkey := keyOf_cell hc
  have ht := Try.underlying51
  obtain ⟨x, hrun, hat, hwx⟩ := hown.lookup_int Try.lawCell ht Try.underlying3 (Try.zeroInt w) hkey
  have hxs : x = sumAt inc c := lit_int ((h2 c hc).symm.trans hat).symm
  subst hxs
  have hown' := hown
  obtain ⟨es, clock, hb, F, hs, hD⟩ := hown
  obtain ⟨v0, st, es1, clock1, e1, _, e3⟩ := entry_then_store (w := w) Try.klCell ht Try.zeroInt hb F hkey
  have hb1 := heap_setBlock_same (w := w) hb (.map es1 clock1)
  have hv0 : v0 = .int .i64 (sumAt inc c) ∧ (Instr.lookup 51 (.map (some b)) (cellV c) false).run Try.prog (setBlock w b (.map es1 clock1)) = .ok (.int .i64 (sumAt inc c)) (setBlock w b (.map es1 clock1)) := by
    rcases Try.klCell.find w hkey es.toList F.keys with ⟨f1, f2⟩ | ⟨j, e0, f1, f2, f3⟩
    · have r1 : (Instr.mapEntry 51 (.map (some b)) (cellV c)).run Try.prog w = .ok (.tuple #[.int .i64 0, goInt clock]) (setBlock w b (.map (es.push ⟨cellV c, .int .i64 0, clock⟩) (clock + 1))) := by
        simp [Instr.mapEntry, run_underlying ht, MapKept.run_getObj_map hb, Try.klCell.check w false hkey, f1, MapKept.run_setObj_map _ hb, Result.andThen, setBlock]
      have r2 : (Instr.lookup 51 (.map (some b)) (cellV c) false).run Try.prog w = .ok (.int .i64 0) w := by
        simp [Instr.lookup, run_underlying ht, MapKept.run_getObj_map hb, Try.klCell.check w _ hkey, f1, Result.andThen]
      rw [r2] at hrun
      injection hrun with hz _
      rw [r1] at e1
      injection e1 with g1 g2
      injection g1 with g1
      injection g1 with g1
      injection g1 with g1 _
      have hb2 := heap_setBlock_same (w := w) hb (.map (es.push ⟨cellV c, .int .i64 0, clock⟩) (clock + 1))
      rw [g2, hb1] at hb2
      injection hb2 with hb2
      injection hb2 with k1 k2
      refine ⟨by rw [← g1]; exact hz, ?_⟩
      rw [← g2] at hb1 ⊢
      rw [k1, k2] at hb1
      generalize setBlock w b (.map (es.push ⟨cellV c, .int .i64 0, clock⟩) (clock + 1)) = wq at hb1 ⊢
      have hks : ∀ e ∈ (es.push (⟨cellV c, .int .i64 0, clock⟩ : MapEntry)).toList, ∃ l, keyOf Try.prog 41 e.key = some l := by
        intro e he
        rw [Array.toList_push, List.mem_append] at he
        rcases he with he | he
        · exact F.keys e he
        · rw [List.mem_singleton] at he; subst he; exact ⟨_, hkey⟩
      rcases Try.klCell.find wq hkey _ hks with ⟨p1, p2⟩ | ⟨j, e0, p1, p2, p3⟩
      · exact absurd rfl (p2 ⟨cellV c, .int .i64 0, clock⟩ (by simp))
      · have : e0.val = .int .i64 0 := by
          have hm : e0 ∈ (es.push (⟨cellV c, .int .i64 0, clock⟩ : MapEntry)).toList := List.mem_of_getElem? p2
          rw [Array.toList_push, List.mem_append] at hm
          rcases hm with hm | hm
          · exact absurd p3 (f2 e0 hm)
          · rw [List.mem_singleton] at hm; rw [hm]
        rw [this] at p1
        rw [← hz]
        rw [Array.toList_push] at p1
        simp [Instr.lookup, run_underlying ht, MapKept.run_getObj_map hb1, Try.klCell.check wq _ hkey, p1, Result.andThen]
    · have r2 : (Instr.lookup 51 (.map (some b)) (cellV c) false).run Try.prog w = .ok e0.val w := by
        simp [Instr.lookup, run_underlying ht, MapKept.run_getObj_map hb, Try.klCell.check w _ hkey, f1, Result.andThen]
      rw [r2] at hrun
      injection hrun with hz _
      have hj : es[j]? = some e0 := by simpa using f2
      have hsame : es.modify j (fun e => { e with key := cellV c }) = es := by
        apply Array.ext'
        rw [Array.toList_modify, modify_eq_set _ _ _ _ f2]
        have : ({ e0 with key := cellV c } : MapEntry) = e0 := by rw [← f3]
        rw [this]
        exact set_self _ _ _ f2
      have r1 : (Instr.mapEntry 51 (.map (some b)) (cellV c)).run Try.prog w = .ok (.tuple #[e0.val, goInt e0.born]) (setBlock w b (.map es clock)) := by
        simp [Instr.mapEntry, run_underlying ht, MapKept.run_getObj_map hb, Try.klCell.check w false hkey, f1, hj, f3, Try.klCell.stays w hkey, hsame, MapKept.run_setObj_map _ hb, Result.andThen, setBlock]
      rw [r1] at e1
      injection e1 with g1 g2
      injection g1 with g1
      injection g1 with g1
      injection g1 with g1 _
      refine ⟨by rw [← g1]; exact hz, ?_⟩
      have hb2 := heap_setBlock_same (w := w) hb (.map es clock)
      rw [← g2]
      generalize setBlock w b (.map es clock) = wq at hb2 ⊢
      rcases Try.klCell.find wq hkey es.toList F.keys with ⟨p1, p2⟩ | ⟨j', e0', p1, p2, p3⟩
      · exact absurd f3 (p2 e0 (List.mem_of_getElem? f2))
      · have he : e0' = e0 := entry_eq_of_key (((MapKept.stamped_iff es clock).1 F.stamped).2.2) (List.mem_of_getElem? p2) (List.mem_of_getElem? f2) (p3.trans f3.symm)
        subst he
        rw [← hz]
        simp [Instr.lookup, run_underlying ht, MapKept.run_getObj_map hb2, Try.klCell.check wq _ hkey, p1, Result.andThen]
  obtain ⟨rfl, hlook⟩ := hv0
  refine ⟨st, _, hrun, e1, hlook, fun d hd => ?_⟩
  obtain ⟨es', clock', s1, s2⟩ := e3 (setBlock w b (.map es1 clock1)) (.int .i64 (sumAt inc c + d)) hb1
  obtain ⟨w', u1, u2, u3⟩ := hown'.store Try.lawCell ht hn hkey (plainElem_int Try.underlying3 hd)
  rw [s2] at u1
  injection u1 with _ u1
  have hss : setBlock (setBlock w b (.map es1 clock1)) b (.map es' clock') = setBlock w b (.map es' clock') := by
    unfold setBlock; simp
  rw [hss, u1] at s1
  refine ⟨w', s1, ⟨_, u2, MapN.step hown'.isMap h1 h2 hc d⟩, turned_mod u3⟩

/-- 'now[c] = struct{}{}'. -/
theorem MapS.put (h : MapS w b n l) {c : Int × Int} (hc : inC c) (hn : n < maxLen) :
    ∃ w', (Instr.mapUpdate 52 (.map (some b)) (cellV c) (.agg #[])).run Try.prog w = .ok () w' ∧ MapS w' b (n + 1) (l ++ [c]) ∧ Mod (fun k => k = b) w w' := by
  obtain ⟨D, hown, h1⟩ := h
  obtain ⟨w', u1, u2, u3⟩ := hown.store Try.lawCell Try.underlying52 hn (keyOf_cell hc) unitElem_mk
  refine ⟨w', u1, ⟨_, u2, fun e he => ?_⟩, turned_mod u3⟩
  by_cases hce : c = e
  · subst hce
    rw [Maps.has_put_same hown.isMap (isKey_kc c)]; simp
  · rw [Maps.has_put_other (kc_ne he hc (Ne.symm hce)), h1 e he]
    simp [Ne.symm hce]
/-- '_, ok := now[c]'. -/
theorem MapS.look (h : MapS w b n l) {c : Int × Int} (hc : inC c) :
    (Instr.lookup 52 (.map (some b)) (cellV c) true).run Try.prog w = .ok (.tuple #[.agg #[], .bool (decide (c ∈ l))]) w := by
  obtain ⟨D, hown, h1⟩ := h
  obtain ⟨v, ps, hrun, hv⟩ := hown.look_ok Try.lawCell Try.underlying52 (Try.zeroUnit w) unitElem_mk (keyOf_cell hc)
  obtain ⟨rfl, _⟩ := unitElem_inv hv
  rw [hrun, h1 c hc]
end
end Go.Proofs.Ytkandepkojfblaa
