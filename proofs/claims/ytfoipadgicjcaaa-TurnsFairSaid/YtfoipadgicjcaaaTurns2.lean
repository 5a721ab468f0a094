/- What waits, by tenant: turns.New, Pop. -/
import Derived.Test.YtfoipadgicjcaaaTurns
import Derived.Test.YtfoipadgicjcaaaW0
namespace Go.Proofs.Ytfoipadgicjcaaa
open Go.RowKit

theorem Try.info85 : (Try.prog.info? 85).map (fun i => (i.zero, i.size, i.bytes)) = some (some (.slice none 0 0), 1, 24) := by kernel_rfl

theorem made_rowIs (w : World) (n : Nat) : (w.alloc (.cells (madeCells #[.slice none 0 0] n) 85)).rowIs w.heap.size 85 n (fun _ => .slice none 0 0) := World.rowIs_made w (.slice none 0 0) n 85

set_option maxHeartbeats 400000 in
theorem new_ok (w : World) (n : Nat) (h1 : 0 < n) (h2 : n ≤ 64) :
    Calls Try.prog 13 #[.int .i64 n] w fun e w' => ∃ T, e = .returned (.tuple #[.pointer (some ⟨T, 0, none⟩), .int .i64 0]) ∧
      TurnsAt w' w.heap.size T n 0 (fun _ => []) ∧ Below w.heap.size w w' := by
  have hmk := fun W => run_make_row' (P := Try.prog) 82 85 (.slice none 0 0) 24 Try.underlying82 Try.info85 rfl .i64 .i64 n (by omega) (by omega) W
  go_enter Try.func13, Try.ntmps13
  go_wp2
  go_ret2
  refine ⟨w.heap.size + 1, rfl, ?_, ((Below.refl _ _).alloc (Nat.le_refl _) _).alloc (by simp) _⟩
  have hr := (made_rowIs w n).alloc (.cells #[.slice (some ⟨w.heap.size, 0, none⟩) n n, .int .i64 0] 84)
  have hb := Blk.new (w.alloc (.cells (madeCells #[.slice none 0 0] n) 85)) 84 #[.slice (some ⟨w.heap.size, 0, none⟩) n n, .int .i64 0]
  rw [show (w.alloc (.cells (madeCells #[.slice none 0 0] n) 85)).heap.size = w.heap.size + 1 from by simp] at hb
  exact ⟨w.heap.size, fun _ => .slice none 0 0, h1, h2, h1, ⟨by omega, Nat.le_refl _⟩, hb, hr, fun k _ => Sl.nil _ _ _, fun k _ b hb => by simp [sblk] at hb, fun j k _ _ _ b hb => by simp [sblk] at hb⟩

/-- What Pop finds: the first place from the next one on, round, at which something waits. -/
def PopAt (n nx : Nat) (q : Nat → List ByteArray) (k : Nat) : Prop := k < n ∧ (∀ j, j < k → q ((nx + j) % n) = []) ∧ q ((nx + k) % n) ≠ []

set_option maxHeartbeats 400000 in
theorem pop_none (w : World) (B T n nx : Nat) (q : Nat → List ByteArray) (h : TurnsAt w B T n nx q) (he : ∀ i, i < n → q i = []) :
    Calls Try.prog 15 #[.pointer (some ⟨T, 0, none⟩)] w fun e w' => e = .returned (.tuple #[.int .i64 0, .string ⟨#[]⟩, .bool false]) ∧ w = w' := by
  obtain ⟨W, vs, h⟩ := h
  have c0 : w.cell? ⟨T, 0, none⟩ = some (.slice (some ⟨W, 0, none⟩) n n) := h.blk.cellS (i := 0) rfl
  have c1 : w.cell? ⟨T, 1, none⟩ = some (.int .i64 nx) := h.blk.cellS (i := 1) rfl
  have hn := h.hn
  have hn' := h.hn'
  have hx := h.hx
  have hcell : ∀ i, i < n → ∃ A cap, w.cell? ⟨W, i, none⟩ = some (.slice A 0 cap) := by
    intro i hi
    obtain ⟨A, cap, hv, _, _⟩ := (h.sl i hi).form
    rw [he i hi] at hv
    exact ⟨A, cap, by rw [h.row.cell hi, hv]; rfl⟩
  have HC := Lib.hid hcell
  clear hcell he
  go_enter Try.func15, Try.ntmps15
  go_wp2
  go_loop [17] (fun i => ∃ j : Nat, j ≤ n ∧ i = .int .i64 j) (fun i => n - (intOf i).toNat)
  case atStart => exact ⟨0, Nat.zero_le _, rfl⟩
  case round =>
    obtain ⟨j, hj, rfl⟩ := hrel
    by_cases hlt : j < n
    · have hm : (nx + j) % n < n := Nat.mod_lt _ hn
      obtain ⟨A, cap, hc⟩ := HC.out _ hm
      obtain ⟨i, hi⟩ : ∃ i, i = (nx + j) % n := ⟨_, rfl⟩
      have hm4 : ((nx : Int) + j) % n = (i : Int) := by rw [hi]; simp [Int.natCast_emod]
      rw [← hi] at hc hm
      clear hi
      have hm3 : ((n : Int) == 0) = false := by simp; omega
      go_wp2
      go_round
      case rel => exact ⟨j + 1, by omega, by go_num⟩
      case measure => simp [intOf]; omega
    · go_wp2
      go_ret3
      exact ⟨rfl, rfl⟩

theorem pop_fin {w : World} {B T n nx : Nat} {q : Nat → List ByteArray} {W : Nat} {vs : Nat → Value} {i m : Nat} {r : List ByteArray} {v' : Value} (h : TurnsIn w B T n nx q W vs) (hi : i < n)
    (hm : m < n) (hsl : Sl w 9 1 v' r.length (r.map .string)) (hv : sblk v' = sblk (vs i)) :
    TurnsAt (((w.setCell ⟨W, i, none⟩ v').setCell ⟨T, 1, none⟩ (.int .i64 m)).drew) B T n m (upd q i r) ∧ Mod (Own B turnTypes w) w (((w.setCell ⟨W, i, none⟩ v').setCell ⟨T, 1, none⟩ (.int .i64 m)).drew) := by
  obtain ⟨csW, hWb⟩ := rowIs_blk h.row
  have hTW : T ≠ W := h.blk.ne hWb (by decide)
  have hfar : ∀ {v n xs}, Sl w 9 1 v n xs → Sl (((w.setCell ⟨W, i, none⟩ v').setCell ⟨T, 1, none⟩ (.int .i64 m)).drew) 9 1 v n xs := by
    intro v n xs hs
    have h1 := hs.far (p := ⟨W, i, none⟩) (hs.ne hWb (by decide)) v'
    have hT := h.blk.far (p := ⟨W, i, none⟩) hTW v'
    exact (h1.far (p := ⟨T, 1, none⟩) (h1.ne hT (by decide)) (.int .i64 m)).drew
  refine ⟨⟨W, upd vs i v', h.hn, h.hn', hm, h.hB, ?_, ?_, ?_, ?_, ?_⟩, ?_⟩
  · have := (h.blk.far (p := ⟨W, i, none⟩) hTW v').set 1 (.int .i64 m)
    exact this.drew
  · have := (h.row.set i v').setOther (a := ⟨T, 1, none⟩) (Ne.symm hTW) (.int .i64 m)
    exact this.drew.congr fun j _ => by simp only [upd]
  · intro j hj
    by_cases e : j = i
    · subst e; simp only [upd, if_true]; exact hfar hsl
    · simp only [upd, if_neg e]; exact hfar (h.sl j hj)
  · intro j hj b hb
    by_cases e : j = i
    · subst e; simp only [upd, if_true] at hb; rw [hv] at hb; exact h.own j hj b hb
    · simp only [upd, if_neg e] at hb; exact h.own j hj b hb
  · intro j k hj hk hjk b hb
    have key : ∀ j, sblk (upd vs i v' j) = sblk (vs j) := by
      intro j; by_cases e : j = i
      · subst e; simp only [upd, if_true]; exact hv
      · simp only [upd, if_neg e]
    rw [key] at hb ⊢
    exact h.apart j k hj hk hjk b hb
  · refine (((Mod.refl _ w).set (fun _ => ⟨h.hB.2, _, ?_, _, hWb⟩) v').set (fun _ => ⟨h.hB.1, _, ?_, _, h.blk⟩) _).drew <;> simp [turnTypes]

set_option maxHeartbeats 800000 in
theorem pop_some (w : World) (B T n nx : Nat) (q : Nat → List ByteArray) (h : TurnsAt w B T n nx q) (k : Nat) (hk : PopAt n nx q k) (i : Nat) (hi : i = (nx + k) % n) (s : ByteArray) (r : List ByteArray) (hq : q i = s :: r) :
    Calls Try.prog 15 #[.pointer (some ⟨T, 0, none⟩)] w fun e w' => e = .returned (.tuple #[.int .i64 i, .string s, .bool true]) ∧
      TurnsAt w' B T n ((i + 1) % n) (upd q i r) ∧ Mod (Own B turnTypes w) w w' := by
  obtain ⟨W, vs, h⟩ := h
  have c0 : w.cell? ⟨T, 0, none⟩ = some (.slice (some ⟨W, 0, none⟩) n n) := h.blk.cellS (i := 0) rfl
  have c1 : w.cell? ⟨T, 1, none⟩ = some (.int .i64 nx) := h.blk.cellS (i := 1) rfl
  have f1 := h.blk.frozen 1
  have hn := h.hn
  have hn' := h.hn'
  have hx := h.hx
  have hin : i < n := by rw [hi]; exact Nat.mod_lt _ hn
  have hsl := h.sl i hin
  have hlen : (q i).length = r.length + 1 := by rw [hq]; rfl
  obtain ⟨b, off, cap, hv, hc1, hc2, hblt, hcs, hfr, right⟩ := hsl.at (by omega)
  have c2 := h.row.cell hin
  have f2 := h.row.frozen i
  rw [hv, hlen] at c2
  rw [hlen] at hc1
  unfold maxLen at hc2
  have c3 := hcs 0 (.string s) (by rw [hq]; rfl)
  rw [Nat.add_zero] at c3
  have hcell : ∀ j, j < n → (q j = [] → ∃ A cap, w.cell? ⟨W, j, none⟩ = some (.slice A 0 cap)) := by
    intro i hi he
    obtain ⟨A, cap, hv, _, _⟩ := (h.sl i hi).form
    rw [he] at hv
    exact ⟨A, cap, by rw [h.row.cell hi, hv]; rfl⟩
  have hTW : T ≠ W := h.blk.ne (rowIs_blk h.row).choose_spec (by decide)
  have HC := Lib.hid hcell
  have HK := Lib.hid hk
  have HI := Lib.hid hi
  have HQ := Lib.hid hq
  have HV := Lib.hid hv
  clear hcell hk hsl hcs hfr hi hq hlen hv
  generalize hL : r.length = L at c2 hc1
  have HL := Lib.hid hL
  clear hL
  obtain ⟨m, hm⟩ : ∃ m, m = (i + 1) % n := ⟨_, rfl⟩
  have hm5 : ((i : Int) + 1) % n = (m : Int) := by rw [hm]; simp [Int.natCast_emod]
  have hmn : m < n := by rw [hm]; exact Nat.mod_lt _ hn
  have hmn3 : ((n : Int) == 0) = false := by simp; omega
  rw [← hm]
  clear hm
  by_cases hcap : cap = 1
  · subst hcap
    have hr0 : r = [] := List.eq_nil_of_length_eq_zero (by have := HL.out; omega)
    have HSL : Hid (Sl w 9 1 (.slice (some ⟨b, off, none⟩) L 0) r.length (r.map .string)) := by
      obtain ⟨cs, k1, k2, _⟩ := right
      have : L = 0 := by omega
      subst this hr0
      exact ⟨rfl, _, _, rfl, Nat.le_refl _, Nat.zero_le _, (fun h => nomatch h), fun a ha => ⟨cs, by injection ha with ha; subst ha; rfl, by injection ha with ha; subst ha; exact k1, by injection ha with ha; subst ha; show off + 0 * 1 ≤ _; omega, by simp⟩⟩
    have FIN := Lib.hid (fun v' => pop_fin (m := m) (v' := v') (r := r) h hin hmn)
    have hb' : sblk (vs i) = some b := by rw [HV.out]; rfl
    rw [hb'] at FIN
    go_enter Try.func15, Try.ntmps15
    go_wp2
    go_loop [17] (fun i => ∃ j : Nat, j ≤ k ∧ i = .int .i64 j) (fun i => n - (intOf i).toNat)
    case atStart => exact ⟨0, Nat.zero_le _, rfl⟩
    case round =>
      obtain ⟨j, hj, rfl⟩ := hrel
      have hkn := HK.out.1
      have hm3 : ((n : Int) == 0) = false := by simp; omega
      by_cases hlt : j < k
      · obtain ⟨i', hi'⟩ : ∃ i', i' = (nx + j) % n := ⟨_, rfl⟩
        have hm : i' < n := by rw [hi']; exact Nat.mod_lt _ hn
        obtain ⟨A, cap, hc⟩ := HC.out _ hm (by rw [hi']; exact HK.out.2.1 j hlt)
        have hm4 : ((nx : Int) + j) % n = (i' : Int) := by rw [hi']; simp [Int.natCast_emod]
        clear hi'
        go_wp2
        go_round
        case rel => exact ⟨j + 1, by omega, by go_num⟩
        case measure => simp [intOf]; omega
      · obtain rfl : j = k := by omega
        have hm4 : ((nx : Int) + j) % n = (i : Int) := by rw [HI.out]; simp [Int.natCast_emod]
        go_wp2
        go_region
        go_wp2
        go_ret3
        refine ⟨rfl, ?_⟩
        exact (FIN.out _ (by have k := HSL.out; rwa [show L = 0 from by omega] at k) rfl)
  · have HSL : Hid (Sl w 9 1 (.slice (some ⟨b, off + 1, none⟩) L (cap - 1)) r.length (r.map .string)) := by
      obtain ⟨cs, k1, k2, k3⟩ := right
      have hl := HL.out
      subst hl
      refine ⟨by simp, _, _, rfl, by omega, by unfold maxLen; omega, (fun h => nomatch h), fun a ha => ⟨cs, by injection ha with ha; subst ha; rfl, by injection ha with ha; subst ha; exact k1, by injection ha with ha; subst ha; show off + 1 + (cap - 1) * 1 ≤ _; omega, ?_⟩⟩
      injection ha with ha; subst ha
      rw [HQ.out] at k3
      simp only [List.map_cons, List.length_cons, Nat.mul_one] at k3 ⊢
      show List.take r.length (List.drop (off + 1) cs.toList) = _
      have := congrArg (List.drop 1) k3
      rw [List.drop_take] at this
      simpa [List.drop_drop] using this
    have FIN := Lib.hid (fun v' => pop_fin (m := m) (v' := v') (r := r) h hin hmn)
    have hb' : sblk (vs i) = some b := by rw [HV.out]; rfl
    rw [hb'] at FIN
    have hcap1 : ((cap : Int) == 1) = false := by simp; omega
    go_enter Try.func15, Try.ntmps15
    go_wp2
    go_loop [17] (fun i => ∃ j : Nat, j ≤ k ∧ i = .int .i64 j) (fun i => n - (intOf i).toNat)
    case atStart => exact ⟨0, Nat.zero_le _, rfl⟩
    case round =>
      obtain ⟨j, hj, rfl⟩ := hrel
      have hkn := HK.out.1
      have hm3 : ((n : Int) == 0) = false := by simp; omega
      by_cases hlt : j < k
      · obtain ⟨i', hi'⟩ : ∃ i', i' = (nx + j) % n := ⟨_, rfl⟩
        have hm : i' < n := by rw [hi']; exact Nat.mod_lt _ hn
        obtain ⟨A, cap, hc⟩ := HC.out _ hm (by rw [hi']; exact HK.out.2.1 j hlt)
        have hm4 : ((nx : Int) + j) % n = (i' : Int) := by rw [hi']; simp [Int.natCast_emod]
        clear hi'
        go_wp2
        go_round
        case rel => exact ⟨j + 1, by omega, by go_num⟩
        case measure => simp [intOf]; omega
      · obtain rfl : j = k := by omega
        have hm4 : ((nx : Int) + j) % n = (i : Int) := by rw [HI.out]; simp [Int.natCast_emod]
        go_wp2
        go_region
        go_wp2
        go_ret3
        refine ⟨rfl, ?_⟩
        exact (FIN.out _ HSL.out rfl)
end Go.Proofs.Ytfoipadgicjcaaa
