/- speech: what the walks ask of the package's variables; numbers as texts. -/
import Derived.Test.YtkandepkojfblaaDoorSpSame
import Derived.Lib.AppendIntMem
import Derived.Lib.SmallJoins
namespace Go.Proofs.YtkandepkojfblaaDoor
open Go.RowKit

theorem Tryd.globalPow : Tryd.prog.globalNamed "internal/strconv.uint64pow10" = some 3 := by kernel_rfl
/-- The variables that are read. -/
structure SpG (w : World) : Prop where
  m : ∃ m, w.cell? ⟨4, 0, none⟩ = some (.int .i64 m)
  pow : Lib.TabIs Tryd.prog w "internal/strconv.uint64pow10" .u64 Lib.pow10Tab
  powlt : 3 < w.heap.size
  verbs : ∀ k : Nat, k < 11 → w.cell? ⟨0, k, none⟩ = some (.string (str (verbL (k : Int))))
theorem SpG.below {w w' : World} (h : SpG w) (hb : Below w.heap.size w w') : SpG w' := by
  obtain ⟨⟨m, hm⟩, hp, hl, hv⟩ := h
  refine ⟨⟨m, ?_⟩, Go.Joins.tab_stays Tryd.globalPow hp hb (Nat.le_refl _), Nat.lt_of_lt_of_le hl hb.size, fun k hk => ?_⟩
  · exact (hb.cell (World.block_lt_of_cell? w _ hm)).trans hm
  · exact (hb.cell (World.block_lt_of_cell? w _ (hv k hk))).trans (hv k hk)
theorem itoa_any (w : World) (n : Int) (h0 : -9223372036854775808 ≤ n) (h1 : n ≤ 9223372036854775807) (hg : SpG w) :
    Calls Tryd.prog 20 #[.int .i64 n] w fun e w' => e = .returned (.string (str (Lib.itoa n))) ∧ Below w.heap.size w w' := by
  refine (Tryd.strconv_Itoa n h0 h1 w hg.pow).mono ?_
  rintro e w' ⟨rfl, k, os, rfl⟩
  exact ⟨rfl, Lib.below_grow _ _ (Nat.le_refl _) _ _⟩
/-- A rule's text as Write has it. -/
def txR (b l : Int) : List UInt8 := if (0 ≤ b ∧ b < 512) ∧ (0 ≤ l ∧ l < 512) ∧ b % 2 = 0 then textL b l else []
theorem txR_good {b l : Int} (h : goodR b l) : txR b l = textL b l := if_pos h
theorem txR_bad {b l : Int} (h : ¬ goodR b l) : txR b l = [] := if_neg h
theorem txR_read (r : List UInt8) (b l : Int) (h : readR r = (b, l, 0)) : txR b l = r := by
  rcases read_cases r with ⟨b', l', h1, h2, h3⟩ | ⟨e, h1, h2⟩
  · rw [h1] at h
    injection h with e1 h; injection h with e2 _
    subst e1 e2
    rw [txR_good h2]; exact h3
  · rw [h1] at h
    injection h with _ h; injection h with _ h
    omega
theorem decDigits_len : ∀ (k n : Nat), n < 10 ^ (k + 1) → (Lib.decDigits n).length ≤ k + 1
  | 0, n, h => by rw [Lib.decDigits, dif_pos (by omega)]; simp
  | k + 1, n, h => by
    rw [Lib.decDigits]
    split
    · simp
    · have := decDigits_len k (n / 10) (by rw [Nat.pow_succ] at h; omega)
      rw [List.length_append, List.length_singleton]; omega
theorem itoa_len {n : Int} (h0 : -9223372036854775808 ≤ n) (h1 : n ≤ 9223372036854775807) : (Lib.itoa n).length ≤ 20 := by
  unfold Lib.itoa
  split
  · have := decDigits_len 18 n.natAbs (by omega)
    rw [List.length_cons]; omega
  · have := decDigits_len 18 n.toNat (by omega)
    omega
end Go.Proofs.YtkandepkojfblaaDoor
