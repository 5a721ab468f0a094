/- The statements' own helper same; lists in order. -/
import Derived.Test.YtlcjadgaommfmaaDoorTidy
import Derived.Test.YtlcjadgaommfmaaDoorSame
namespace Go.Proofs.YtlcjadgaommfmaaDoor
open Go.RowKit

theorem nodup_le {t l : List (Int × Int)} (hn : t.Nodup) (hs : ∀ c ∈ t, c ∈ l) : t.length ≤ l.length := by
  induction t generalizing l with
  | nil => simp
  | cons a r ih =>
    rw [List.nodup_cons] at hn
    have ha := hs a (by simp)
    have h1 := ih (l := l.erase a) hn.2 (fun c hc => by
      rw [List.mem_erase_of_ne]
      · exact hs c (by simp [hc])
      · rintro rfl; exact hn.1 hc)
    rw [List.length_erase_of_mem ha] at h1
    have := List.length_pos_of_mem ha
    simp only [List.length_cons]
    omega
theorem tid_length {l t : List (Int × Int)} (h : Tid l t) : t.length ≤ l.length :=
  nodup_le (List.Pairwise.imp (R := ltC) (S := fun a b => a ≠ b) (fun {a b} hab e => ltC_irrefl a (by rw [← e] at hab; exact hab)) h.1) fun c hc => (h.2 c).1 hc

theorem tid_pair {l t : List (Int × Int)} (h : Tid l t) {q : Nat} (hq : q + 1 < t.length) : ltC t[q]! t[q + 1]! := by
  have e := List.pairwise_iff_getElem.1 h.1 q (q + 1) (by omega) hq (by omega)
  rw [List.getElem!_eq_getElem?_getD, List.getElem?_eq_getElem (by omega), List.getElem!_eq_getElem?_getD, List.getElem?_eq_getElem hq]
  exact e
theorem tid_mem {l t : List (Int × Int)} (h : Tid l t) (c : Int × Int) : c ∈ t ↔ c ∈ l := h.2 c


end Go.Proofs.YtlcjadgaommfmaaDoor
