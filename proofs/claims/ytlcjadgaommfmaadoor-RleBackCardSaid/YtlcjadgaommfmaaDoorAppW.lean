/- append onto a slice that reads as a list, for the walk: in a plain region, and in a region that draws its order. No program is named here. -/
import Derived.Test.YtlcjadgaommfmaaDoorApp
import Derived.Deep.RegionLaw
namespace Go.Proofs.YtlcjadgaommfmaaDoor
open Go.RowKit

section
variable {P : Program} (w : World)

theorem wp_append_sl {o : Oper} {a : Act} {K : Act → World → Prop} {Q : Exit → Act → World → Prop} (s x : Operand) (t : TypeId)
    (ho : o.op = .call { callee := .builtin .append, args := #[s, x], argTypes := #[t, t] })
    (e : TypeId) (z : Value) (sz bytes : Nat) (ht : P.underlying t = some (.slice e)) (hinfo : (P.info? e).map (fun i => (i.zero, i.size, i.bytes)) = some (some z, sz, bytes))
    (hzs : z.cells.size = sz) (hsz : 0 < sz)
    {v : Value} {n : Nat} {xs : List Value} (hs : a.eval s = v) (hv : Sl w e sz v n xs)
    {B m : Nat} {xv : Value} {news : List Value} (hx : a.eval x = xv) (hr : Rd w B sz xv m news) (h1 : ∀ u ∈ news, u.oneCell' = true)
    (hbytes : (n + m) * bytes ≤ 140737488355328) (h63 : n + m ≤ maxLen)
    (h : ∀ v' w', Sl w' e sz v' (n + m) (xs ++ news) → Mod (fun b => sblk v = some b) w w' → (sblk v' = sblk v ∨ sblk v' = some w.heap.size ∧ w.heap.size < w'.heap.size) → K (a.put o.dst v') w') : o.wp P a w K Q := by
  obtain ⟨i, hi, h2, h3, h4⟩ : ∃ i, P.info? e = some i ∧ i.zero = some z ∧ i.size = sz ∧ i.bytes = bytes := by
    cases hh : P.info? e with
    | none => simp [hh] at hinfo
    | some i => simp [hh] at hinfo; exact ⟨i, rfl, hinfo.1, hinfo.2.1, hinfo.2.2⟩
  obtain ⟨v', w', hrun, r2, r3, r4⟩ := run_append_sl (P := P) w t o.type e i z sz bytes ht hi h2 h3 h4 hzs hsz hv hr h1 hbytes h63
  unfold Oper.wp execOp
  simp only [ho, resolve, invoke, builtin, Sem.run_bind, Sem.run_pure, Result.andThen_ok, List.map_toArray, List.map_cons, List.map_nil, hs, hx, hrun]
  exact h v' w' r2 r3 r4

theorem wpList_append_sl {ops : Array Oper} {rest : List Oper} {o : Oper} {a : Act} {Q : Exit → Act → World → Prop} (hgd : o.guard = none) (s x : Operand) (t : TypeId)
    (ho : o.op = .call { callee := .builtin .append, args := #[s, x], argTypes := #[t, t] })
    (e : TypeId) (z : Value) (sz bytes : Nat) (ht : P.underlying t = some (.slice e)) (hinfo : (P.info? e).map (fun i => (i.zero, i.size, i.bytes)) = some (some z, sz, bytes))
    (hzs : z.cells.size = sz) (hsz : 0 < sz)
    {v : Value} {n : Nat} {xs : List Value} (hs : a.eval s = v) (hv : Sl w e sz v n xs)
    {B m : Nat} {xv : Value} {news : List Value} (hx : a.eval x = xv) (hr : Rd w B sz xv m news) (h1 : ∀ u ∈ news, u.oneCell' = true)
    (hbytes : (n + m) * bytes ≤ 140737488355328) (h63 : n + m ≤ maxLen)
    (h : ∀ v' w', Sl w' e sz v' (n + m) (xs ++ news) → Mod (fun b => sblk v = some b) w w' → (sblk v' = sblk v ∨ sblk v' = some w.heap.size ∧ w.heap.size < w'.heap.size) → wpList P ops Q rest (a.put o.dst v') w') :
    wpList P ops Q (o :: rest) a w :=
  wpList_plain hgd fun _ hK => wp_append_sl w s x t ho e z sz bytes ht hinfo hzs hsz hs hv hx hr h1 hbytes h63 fun v' w' h2 h3 h4 => hK _ _ (h v' w' h2 h3 h4)

theorem step_append_sl {ops : Array Oper} {o : Oper} {a : Act} {K : Act → World → Prop} {Q : Exit → Act → World → Prop} {E : Prop} (hgd : o.guard = none) (s x : Operand) (t : TypeId)
    (ho : o.op = .call { callee := .builtin .append, args := #[s, x], argTypes := #[t, t] })
    (e : TypeId) (z : Value) (sz bytes : Nat) (ht : P.underlying t = some (.slice e)) (hinfo : (P.info? e).map (fun i => (i.zero, i.size, i.bytes)) = some (some z, sz, bytes))
    (hzs : z.cells.size = sz) (hsz : 0 < sz)
    {v : Value} {n : Nat} {xs : List Value} (hs : a.eval s = v) (hv : Sl w e sz v n xs)
    {B m : Nat} {xv : Value} {news : List Value} (hx : a.eval x = xv) (hr : Rd w B sz xv m news) (h1 : ∀ u ∈ news, u.oneCell' = true)
    (hbytes : (n + m) * bytes ≤ 140737488355328) (h63 : n + m ≤ maxLen)
    (h : ∀ v' w', Sl w' e sz v' (n + m) (xs ++ news) → Mod (fun b => sblk v = some b) w w' → (sblk v' = sblk v ∨ sblk v' = some w.heap.size ∧ w.heap.size < w'.heap.size) → K (a.put o.dst v') w') :
    if Region.wanted o (yielded ops a.tmps) = true then Oper.wp P o a w K Q else E := by
  have hw : Region.wanted o (yielded ops a.tmps) = true := by simp [Region.wanted, hgd]
  rw [if_pos hw]
  exact wp_append_sl w s x t ho e z sz bytes ht hinfo hzs hsz hs hv hx hr h1 hbytes h63 h
end
theorem fresh_of {w w1 w' : World} {v v' : Value} (hm : Mod (fun b => sblk v = some b) w1 w') (hd : sblk v' = sblk v ∨ sblk v' = some w1.heap.size ∧ w1.heap.size < w'.heap.size)
    (hb : Below w.heap.size w w1) (hv : ∀ b, sblk v = some b → w.heap.size ≤ b) : (∀ b, sblk v' = some b → w.heap.size ≤ b) ∧ Below w.heap.size w w' := by
  refine ⟨fun b hb' => ?_, hb.trans (hm.below hb.size fun b hlt he => ?_)⟩
  · rcases hd with e | ⟨e, _⟩
    · exact hv b (by rw [← e]; exact hb')
    · rw [e] at hb'; injection hb' with hb'; have := hb.size; omega
  · have := hv b he; omega

end Go.Proofs.YtlcjadgaommfmaaDoor
