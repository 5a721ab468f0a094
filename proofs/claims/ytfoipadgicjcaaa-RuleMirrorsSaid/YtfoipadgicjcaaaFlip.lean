/- lifelodgekeep.flip: cells mirrored in one of eight ways. -/
import Derived.Test.YtfoipadgicjcaaaSome
import Derived.Test.YtfoipadgicjcaaaLifeMap
import Derived.Deep.DeepCutAuto
import Derived.IntWalk
namespace Go.Proofs.Ytfoipadgicjcaaa
open Go.RowKit

theorem way_bits_fin : ∀ x : Fin 8, bits .and .i64 ((x : Nat) : Int) 1 = (((x : Nat) % 2 : Nat) : Int) ∧ bits .and .i64 ((x : Nat) : Int) 2 = (((x : Nat) / 2 % 2 * 2 : Nat) : Int) ∧ bits .and .i64 ((x : Nat) : Int) 4 = (((x : Nat) / 4 % 2 * 4 : Nat) : Int) := by decide +kernel
/-- The three bits of a way. -/
theorem way_bits (way : Nat) (h : way < 8) : ∃ b1 b2 b4 : Bool, ((bits .and .i64 (way : Int) 1 == 1) = b1) ∧ ((bits .and .i64 (way : Int) 2 == 2) = b2) ∧ ((bits .and .i64 (way : Int) 4 == 4) = b4) ∧
    ∀ c, flC way c = (let x := if b1 then -c.1 else c.1; let y := if b2 then -c.2 else c.2; if b4 then (y, x) else (x, y)) := by
  obtain ⟨e1, e2, e4⟩ := way_bits_fin ⟨way, h⟩
  simp only at e1 e2 e4
  refine ⟨decide (way % 2 = 1), decide (way / 2 % 2 = 1), decide (way / 4 % 2 = 1), ?_, ?_, ?_, fun c => ?_⟩
  · rw [e1]; by_cases h : way % 2 = 1
    · simp [h]
    · have : way % 2 = 0 := by omega
      simp [this]
  · rw [e2]; by_cases h : way / 2 % 2 = 1
    · simp [h]
    · have : way / 2 % 2 = 0 := by omega
      simp [this]
  · rw [e4]; by_cases h : way / 4 % 2 = 1
    · simp [h]
    · have : way / 4 % 2 = 0 := by omega
      simp [this]
  · simp [flC]

def FlipPost (w : World) (n : Nat) (l : List (Int × Int)) (way : Nat) (e : Ending) (w' : World) : Prop :=
  ∃ v', e = .returned v' ∧ Sl w' 62 2 v' n (flat (l.map (flC way))) ∧ (∀ b, sblk v' = some b → w.heap.size ≤ b) ∧ Below w.heap.size w w'

set_option maxRecDepth 100000 in
set_option maxHeartbeats 3200000 in
theorem flip_any (w : World) (n : Nat) (v : Value) (l : List (Int × Int)) (way : Nat) (hway : way < 8) (h : Rd w w.heap.size 2 v n (flat l)) (hn : n ≤ 4096) (hin : ∀ c ∈ l, okC c) :
    Calls Try.prog 37 #[v, .int .i64 way] w (FlipPost w n l way) := by
  obtain ⟨A, cap, rfl, hc1, hc2⟩ := h.form
  obtain ⟨hl, hat⟩ := h.pairs
  have HAT := Lib.hid hat
  have HIN := Lib.hid hin
  have HL := Lib.hid hl
  have HNIL := Lib.hid (Sl.nil w 62 2)
  obtain ⟨b1, b2, b4, e1, e2, e4, hfl⟩ := way_bits way hway
  have HFL := Lib.hid hfl
  have HE1 := Lib.hid e1
  have HE2 := Lib.hid e2
  have HE4 := Lib.hid e4
  clear h hat hin hl hfl e1 e2 e4
  unfold maxLen at hc2
  generalize (way : Int) = wy at HE1 HE2 HE4 ⊢
  go_enter Try.func37, Try.ntmps37
  go_wp2
  go_loopw [5, 10] (fun av iv wx => ∃ k : Nat, k ≤ n ∧ iv = .int .i64 k ∧ Sl wx 62 2 av k (flat ((l.take k).map (flC way))) ∧ (∀ b, sblk av = some b → w.heap.size ≤ b) ∧ Below w.heap.size w wx) (fun _ iv _ => n - (intOf iv).toNat)
  case atStart => exact ⟨0, Nat.zero_le _, rfl, HNIL.out, fun b hb => by simp [sblk] at hb, Below.refl _ _⟩
  case round =>
    obtain ⟨k, hkn, rfl, hs, hf, hb⟩ := hrel
    by_cases hlt : k < n
    · obtain ⟨b, off, cap', he, _, _, hb1, hcs⟩ := HAT.out (by omega)
      injection he with he1 he2 he3
      subst he1 he3
      obtain ⟨c1, c2⟩ := hcs k hlt
      rw [← hb.cell (p := ⟨b, off + k * 2, none⟩) (by show b < _; omega)] at c1
      rw [← hb.cell (p := ⟨b, off + k * 2 + 1, none⟩) (by show b < _; omega)] at c2
      have hget : l[k]? = some l[k]! := by rw [List.getElem!_eq_getElem?_getD, List.getElem?_eq_getElem (by rw [HL.out]; exact hlt)]; rfl
      have hok := HIN.out _ (List.mem_of_getElem? hget)
      have htk : (l.take (k + 1)).map (flC way) = (l.take k).map (flC way) ++ [flC way l[k]!] := by rw [List.take_add_one, hget, List.map_append]; rfl
      generalize l[k]! = c at c1 c2 hok htk
      obtain ⟨x, y⟩ := c
      unfold okC okZ at hok
      dsimp only at hok
      have HTK := Lib.hid htk
      have HS := Lib.hid hs
      have HF := Lib.hid hf
      have HB := Lib.hid hb
      have hsz := hb.size
      have n1 := IntWalk.i64_in (-x) (by omega)
      have n2 := IntWalk.i64_in (-y) (by omega)
      have hT0 : sblk u5 ≠ some wr.heap.size := fun e => by have := (HS.out.lt e).1; omega
      have HT0 := Lib.hid hT0
      clear htk hs hf hb hcs hget hT0
      go_upto_region 5 with fail
      generalize hw1 : World.alloc wr _ = w1
      have HB1 : Hid (Blk w1 wr.heap.size 62 #[.int .i64 x, .int .i64 y] ∧ Sl w1 62 2 u5 k (flat ((l.take k).map (flC way))) ∧ Below w.heap.size w w1) := by
        subst hw1; exact ⟨Blk.new wr _ _, HS.out.alloc _, HB.out.alloc hsz _⟩
      clear hw1 c1 c2 HS HB
      have hTs : w.heap.size ≤ wr.heap.size := hsz
      generalize wr.heap.size = T at *
      clear hsz
      have e1 := HE1.out
      go_upto_if 16 with fail
      clear e1
      go_cut [] (fun wq => Blk wq T 62 #[.int .i64 (if b1 = true then -x else x), .int .i64 y] ∧ Sl wq 62 2 u5 k (flat ((l.take k).map (flC way))) ∧ Below w.heap.size w wq)
      case first =>
        have ht : w1.cell? ⟨T, 0, none⟩ = some (.int .i64 x) := HB1.out.1.cellS rfl
        have htf := HB1.out.1.frozen 0
        cases b1
        · go_wp2_with fail
          go_meet
          exact HB1.out
        · go_wp2_with fail
          go_meet
          exact ⟨HB1.out.1.set 0 _, HB1.out.2.1.far HT0.out _, HB1.out.2.2.setCell hTs _⟩
      case rest =>
      obtain ⟨hbA, hsA, hwA⟩ := hcut
      have hbx : (-1099511627776 < (if b1 = true then -x else x) ∧ (if b1 = true then -x else x) < 1099511627776) := by split <;> omega
      have HFX := Lib.hid (HFL.out (x, y))
      dsimp only at HFX
      generalize hx1 : (if b1 = true then -x else x) = x1 at hbA hbx HFX
      have HA : Hid (Blk wc T 62 #[.int .i64 x1, .int .i64 y] ∧ Sl wc 62 2 u5 k (flat ((l.take k).map (flC way))) ∧ Below w.heap.size w wc) := ⟨hbA, hsA, hwA⟩
      clear hbA hsA hwA hx1 HB1
      generalize wc = w2 at *
      have e2 := HE2.out
      go_upto_if 23 with fail
      clear e2
      go_cut [] (fun wq => Blk wq T 62 #[.int .i64 x1, .int .i64 (if b2 = true then -y else y)] ∧ Sl wq 62 2 u5 k (flat ((l.take k).map (flC way))) ∧ Below w.heap.size w wq)
      case first =>
        have ht : w2.cell? ⟨T, 1, none⟩ = some (.int .i64 y) := HA.out.1.cellS rfl
        have htf := HA.out.1.frozen 1
        cases b2
        · go_wp2_with fail
          go_meet
          exact HA.out
        · go_wp2_with fail
          go_meet
          exact ⟨HA.out.1.set 1 _, HA.out.2.1.far HT0.out _, HA.out.2.2.setCell hTs _⟩
      case rest =>
      obtain ⟨hbA, hsA, hwA⟩ := hcut
      have hby : (-1099511627776 < (if b2 = true then -y else y) ∧ (if b2 = true then -y else y) < 1099511627776) := by split <;> omega
      generalize hy1 : (if b2 = true then -y else y) = y1 at hbA hby HFX
      have HB2 : Hid (Blk wc T 62 #[.int .i64 x1, .int .i64 y1] ∧ Sl wc 62 2 u5 k (flat ((l.take k).map (flC way))) ∧ Below w.heap.size w wc) := ⟨hbA, hsA, hwA⟩
      clear hbA hsA hwA hy1 HA
      generalize wc = w3 at *
      have e4 := HE4.out
      go_upto_if 30 with fail
      clear e4
      go_cut [] (fun wq => Blk wq T 62 #[.int .i64 (if b4 = true then y1 else x1), .int .i64 (if b4 = true then x1 else y1)] ∧ Sl wq 62 2 u5 k (flat ((l.take k).map (flC way))) ∧ Below w.heap.size w wq)
      case first =>
        have ht0 : w3.cell? ⟨T, 0, none⟩ = some (.int .i64 x1) := HB2.out.1.cellS rfl
        have ht1 : w3.cell? ⟨T, 1, none⟩ = some (.int .i64 y1) := HB2.out.1.cellS rfl
        have htf0 := HB2.out.1.frozen 0
        have htf1 := HB2.out.1.frozen 1
        cases b4
        · go_wp2_with fail
          go_meet
          exact HB2.out
        · go_wp2_with fail
          go_meet
          exact ⟨(HB2.out.1.set 0 _).set 1 _, (HB2.out.2.1.far HT0.out _).far HT0.out _, (HB2.out.2.2.setCell hTs _).setCell hTs _⟩
      case rest =>
      obtain ⟨hbA, hsA, hwA⟩ := hcut
      have hpq : flC way (x, y) = (if b4 = true then y1 else x1, if b4 = true then x1 else y1) := by rw [HFX.out]; cases b4 <;> simp
      generalize (if b4 = true then y1 else x1) = p at hbA hpq
      generalize (if b4 = true then x1 else y1) = q at hbA hpq
      have HPQ := Lib.hid hpq
      have HSA := Lib.hid hsA
      have HWA := Lib.hid hwA
      have t0 : wc.cell? ⟨T, 0, none⟩ = some (.int .i64 p) := hbA.cellS rfl
      have t1 : wc.cell? ⟨T, 1, none⟩ = some (.int .i64 q) := hbA.cellS rfl
      have hwz := hwA.size
      clear hpq hsA hwA hbA HFX HB2
      generalize wc = w4 at *
      have HRD : Hid (Rd (w4.alloc (.cells #[.int .i64 p, .int .i64 q] 62)) (w4.heap.size + 1) 2 (.slice (some ⟨w4.heap.size, 0, none⟩) 1 1) 1 (flat [(p, q)])) := fresh_cells w4 [(p, q)] 1 rfl (by unfold maxLen; omega)
      go_wp2_with (at_builtin; refine wpList_append_sl _ rfl (.tmp 37) (.tmp 39) 56 rfl 62 (.agg #[.int .i64 0, .int .i64 0]) 2 16 Try.underlying56 Try.info62 rfl (by decide) rfl (HSA.out.alloc _) rfl HRD.out flat_one (by omega) (by unfold maxLen; omega) ?_; intro v5 w5 hs5 hm5 hd5)
      have hm5 : Mod (fun z => sblk u5 = some z) (w4.alloc (.cells #[.int .i64 p, .int .i64 q] 62)) w5 := hm5
      have hd5 : sblk v5 = sblk u5 ∨ sblk v5 = some (w4.alloc (.cells #[.int .i64 p, .int .i64 q] 62)).heap.size ∧ (w4.alloc (.cells #[.int .i64 p, .int .i64 q] 62)).heap.size < w5.heap.size := hd5
      obtain ⟨f1, f2⟩ := fresh_of (w := w) hm5 hd5 (HWA.out.alloc hwz _) HF.out
      have HS5 : Hid (Sl w5 62 2 v5 (k + 1) (flat ((l.take (k + 1)).map (flC way)))) := by
        show Sl _ _ _ _ _ _
        rw [HTK.out, flat_append, HPQ.out]; exact hs5
      have HF1 := Lib.hid f1
      have HF2 := Lib.hid f2
      clear hs5 hm5 hd5 f1 f2 t0 t1 HRD
      go_wp2
      go_roundw
      case rel => exact ⟨k + 1, by omega, by go_num, HS5.out, HF1.out, HF2.out⟩
      case measure => simp [intOf]; omega
    · obtain rfl : k = n := by omega
      have hall : (l.take k).map (flC way) = l.map (flC way) := by rw [List.take_of_length_le (by have := HL.out; omega)]
      rw [hall] at hs
      have HS := Lib.hid hs
      have HF := Lib.hid hf
      have HB := Lib.hid hb
      clear hs hf hb hall
      go_wp2
      go_ret
      exact ⟨_, rfl, HS.out, HF.out, HB.out⟩
end Go.Proofs.Ytfoipadgicjcaaa
