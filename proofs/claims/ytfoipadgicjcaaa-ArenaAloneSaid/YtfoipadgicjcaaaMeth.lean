/- Which method of arena.numbers an interface call runs. -/
import Derived.Test.YtfoipadgicjcaaaFree
namespace Go.Proofs.Ytfoipadgicjcaaa
open Go.RowKit

theorem run_load_cell {P : Program} {w : World} {a : Addr} {v : Value} (h : w.cell? a = some v) : (load a).run P w = .ok v w := by
  simp [go_sem, h]
theorem meth_val {w : World} {p o : Nat} {v : Value} (fuel : Nat) (name : String) (f : Nat) (hm : (Try.prog.info? 107).map (fun I => (I.methods.find? (fun x => x.name == name)).map fun m => (m.path.toList.length, m.func)) = some (some (0, some (f, false)))) (h : w.cell? ⟨p, o, none⟩ = some v) :
    (method (fuel + 1) 107 (.pointer (some ⟨p, o, none⟩)) name).run Try.prog w = .ok (f, v) w := by
  obtain ⟨I, hI, h2⟩ := Option.map_eq_some_iff.1 hm
  obtain ⟨m, hf, h3⟩ := Option.map_eq_some_iff.1 h2
  simp only [Prod.mk.injEq] at h3
  obtain ⟨h4, h5⟩ := h3
  have h4 : m.path.toList = [] := List.length_eq_zero_iff.1 h4
  have e0 : (typeInfo 107).run Try.prog w = .ok I w := by simp [typeInfo, go_sem, hI]
  have e2 : ∀ s, (receiverAt 107 (.val (.pointer (some ⟨p, o, none⟩))) false s).run Try.prog w = (load ⟨p, o, none⟩).run Try.prog w := by
    intro s
    cases s with
    | none => kernel_rfl
    | some s => kernel_rfl
  unfold method
  rw [Sem.run_bind, e0]
  simp only [Result.andThen_ok, hf, h4, h5, follow, Sem.run_bind, Sem.run_pure]
  rw [e2, run_load_cell h]
  rfl
theorem meth_len {w : World} {p o : Nat} {v : Value} (fuel : Nat) (h : w.cell? ⟨p, o, none⟩ = some v) : (method (fuel + 1) 107 (.pointer (some ⟨p, o, none⟩)) "Len").run Try.prog w = .ok (106, v) w :=
  meth_val fuel "Len" _ (by kernel_rfl) h
theorem meth_less {w : World} {p o : Nat} {v : Value} (fuel : Nat) (h : w.cell? ⟨p, o, none⟩ = some v) : (method (fuel + 1) 107 (.pointer (some ⟨p, o, none⟩)) "Less").run Try.prog w = .ok (107, v) w :=
  meth_val fuel "Less" _ (by kernel_rfl) h
theorem meth_swap {w : World} {p o : Nat} {v : Value} (fuel : Nat) (h : w.cell? ⟨p, o, none⟩ = some v) : (method (fuel + 1) 107 (.pointer (some ⟨p, o, none⟩)) "Swap").run Try.prog w = .ok (108, v) w :=
  meth_val fuel "Swap" _ (by kernel_rfl) h
theorem meth_pop (w : World) (p o fuel : Nat) : (method (fuel + 1) 107 (.pointer (some ⟨p, o, none⟩)) "Pop").run Try.prog w = .ok (109, .pointer (some ⟨p, o, none⟩)) w := by kernel_rfl
theorem meth_push (w : World) (p o fuel : Nat) : (method (fuel + 1) 107 (.pointer (some ⟨p, o, none⟩)) "Push").run Try.prog w = .ok (110, .pointer (some ⟨p, o, none⟩)) w := by kernel_rfl
end Go.Proofs.Ytfoipadgicjcaaa
