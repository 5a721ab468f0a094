/- strconv.FormatUint(x, 16): small letters and digits, 1 to 16 of them. -/
import Derived.Test.YtfoipadgicjcaaaDoorStr
import Derived.Laws.BitsLemmas
import Derived.Laws.Bits64
import Derived.Laws.BitsAllLaws
import Derived.Laws.Wrap64
import Derived.Deep.DeepCutAuto
import Derived.BigQuiet
namespace Go.Proofs.YtfoipadgicjcaaaDoor
open Go.RowKit

/-- A digit of a number in base 16. -/
def hexC (c : UInt8) : Prop := (48 ≤ c.toNat ∧ c.toNat ≤ 57) ∨ (97 ≤ c.toNat ∧ c.toNat ≤ 102)

set_option maxRecDepth 100000 in
theorem tz64 (w : World) (h : w.cell? ⟨5, 15, none⟩ = some (.int .u8 4)) :
    Calls Tryd.prog 54 #[.int .u64 16] w fun e w' => e = .returned (.int .i64 4) ∧ w = w' := by
  have e1 : IntKind.u64.wrap (bits .and .u64 16 (IntKind.u64.wrap (-16)) * 285870213051353865) / 288230376151711744 = 15 := by decide +kernel
  go_enter Tryd.func54, Tryd.ntmps54
  go_wp2
  go_ret
  exact ⟨rfl, rfl⟩

set_option maxRecDepth 100000 in
theorem tz (w : World) (h : w.cell? ⟨5, 15, none⟩ = some (.int .u8 4)) :
    Calls Tryd.prog 47 #[.int .u64 16] w fun e w' => e = .returned (.int .i64 4) ∧ w = w' := by
  have H := Lib.hid h
  clear h
  go_enter Tryd.func47, Tryd.ntmps47
  go_wp2_with fail
  (with_reducible refine (tz64 _ H.out).mono ?_)
  rintro e w' ⟨rfl, rfl⟩
  go_wp2
  go_ret
  exact ⟨rfl, rfl⟩
set_option maxRecDepth 100000 in
theorem pow_two (w : World) : Calls Tryd.prog 46 #[.int .i64 16] w fun e w' => e = .returned (.bool true) ∧ w = w' := by
  have e1 : bits .and .i64 16 15 = 0 := by decide +kernel
  go_enter Tryd.func46, Tryd.ntmps46
  go_wp2
  go_ret
  exact ⟨rfl, rfl⟩

/-- The k-th digit. -/
def digC (k : Nat) : UInt8 := if k < 10 then UInt8.ofNat (48 + k) else UInt8.ofNat (87 + k)
theorem digC_hex : ∀ k : Fin 16, hexC (digC k.val) := by unfold hexC; decide +kernel
theorem dig_index (k : Nat) (hk : k < 16) (w : World) : (Instr.index 9 (.string ⟨#[48, 49, 50, 51, 52, 53, 54, 55, 56, 57, 97, 98, 99, 100, 101, 102, 103, 104, 105, 106, 107, 108, 109, 110, 111, 112, 113, 114, 115, 116, 117, 118, 119, 120, 121, 122]⟩) (.int .u64 (k : Int))).run Tryd.prog w = .ok (.int .u8 (digC k).toNat) w := by
  have key : ∀ k : Fin 16, (⟨#[48, 49, 50, 51, 52, 53, 54, 55, 56, 57, 97, 98, 99, 100, 101, 102, 103, 104, 105, 106, 107, 108, 109, 110, 111, 112, 113, 114, 115, 116, 117, 118, 119, 120, 121, 122]⟩ : ByteArray)[k.val]'(Nat.lt_of_lt_of_le k.isLt (by decide)) = digC k.val := by decide +kernel
  have h := key ⟨k, hk⟩
  rw [run_index_string w _ _ _ _ Tryd.underlying9, dif_pos ⟨by omega, by show (k : Int) < 36; omega⟩]
  simp only at h
  simp only [Int.toNat_natCast, h]
theorem slice65 (b j : Nat) (hj : j ≤ 15) (w : World) : (Instr.sliceAt 88 (.pointer (some ⟨b, 0, none⟩)) (some (.int .i64 (65 - (j : Int) - 1))) none none).run Tryd.prog w = .ok (.slice (some ⟨b, 64 - j, none⟩) (j + 1) (j + 1)) w := by
  have e65 : Tryd.prog.arrayLen 88 = 65 := by kernel_rfl
  have hel : Tryd.prog.elem 88 = 5 := by kernel_rfl
  rw [run_sliceAt_array_l w _ _ (by kernel_rfl) .i64 _ (by omega) (by rw [e65]; omega), hel, e65]
  have ht : (65 - (j : Int) - 1).toNat = 64 - j := by omega
  rw [ht]
  have hn : ¬ (65 = 64 - j) := by omega
  have hd : 65 - (64 - j) = j + 1 := by omega
  have hz : (sizeOf 5).run Tryd.prog w = .ok 1 w := by first | go_simp | kernel_rfl
  rw [hz]
  simp [slicedAt, if_neg hn, hd, Addr.add]
  omega
theorem u64_and15 (x : Int) (h0 : 0 ≤ x) (h1 : x < 18446744073709551616) : bits .and .u64 x 15 = x % 16 :=
  bits_mask .u64 64 (by decide) (fun n a b => by rw [IntKind.wrap_u64]; omega) 4 (by decide) x h0 h1
theorem set_drop {l : List Value} {i : Nat} (h : i < l.length) (v : Value) : (l.set i v).drop i = v :: l.drop (i + 1) := by
  rw [List.drop_eq_getElem_cons (by rw [List.length_set]; exact h), List.getElem_set_self, List.drop_set_of_lt (by omega)]
theorem zeros88 : (Tryd.zeroCells88).size = 65 := by kernel_rfl

set_option maxRecDepth 100000 in
set_option maxHeartbeats 3200000 in
theorem format_bits (w : World) (u : Int) (h0 : 0 ≤ u) (h1 : u < 18446744073709551616) (h : w.cell? ⟨5, 15, none⟩ = some (.int .u8 4)) :
    Calls Tryd.prog 37 #[.slice none 0 0, .int .u64 u, .int .i64 16, .bool false, .bool false] w fun e w' =>
      ∃ s : List UInt8, e = .returned (.tuple #[.slice none 0 0, .string (str s)]) ∧ (1 ≤ s.length ∧ s.length ≤ 16) ∧ (∀ c ∈ s, hexC c) ∧ Below w.heap.size w w' := by
  have H := Lib.hid h
  have hlt5 : 5 < w.heap.size := World.block_lt_of_cell? w _ h
  clear h
  go_enter Tryd.func37, Tryd.ntmps37
  go_wp2_with fail
  (with_reducible refine (pow_two _).mono ?_)
  rintro e wq ⟨rfl, rfl⟩
  generalize hw1 : World.alloc w _ = w1
  have HB1 : Hid (Below w.heap.size w w1) := by subst hw1; exact (Below.refl _ _).alloc (Nat.le_refl _) _
  have HT1 : Hid (Blk w1 w.heap.size 88 Tryd.zeroCells88) := by subst hw1; exact Blk.new w _ _
  have HC1 : Hid (w1.cell? ⟨5, 15, none⟩ = some (.int .u8 4)) := (HB1.out.cell (p := ⟨5, 15, none⟩) hlt5).trans H.out
  clear hw1
  go_wp2_with fail
  (with_reducible refine (tz _ HC1.out).mono ?_)
  rintro e wq ⟨rfl, rfl⟩
  obtain ⟨un, rfl⟩ := Int.eq_ofNat_of_zero_le h0
  go_wp2_with fail
  go_loopw [1, 13] (fun uv iv wx => ∃ (j uu : Nat) (hs : List UInt8) (cs : Array Value), j ≤ 15 ∧ iv = .int .i64 (65 - (j : Int)) ∧ uv = .int .u64 uu ∧ uu < 16 ^ (16 - j) ∧ Blk wx w.heap.size 88 cs ∧ cs.size = 65 ∧ cs.toList.drop (65 - j) = bytesV hs ∧ hs.length = j ∧ (∀ c ∈ hs, hexC c) ∧ Below w.heap.size w wx) (fun uv _ _ => (intOf uv).toNat)
  case atStart => exact ⟨0, un, [], _, by omega, rfl, rfl, by omega, HT1.out, zeros88, by rw [List.drop_of_length_le (by rw [Array.length_toList, zeros88]; omega)]; rfl, rfl, by simp, HB1.out⟩
  case round =>
    obtain ⟨j, uu, hs, cs, hj, rfl, rfl, hu, hbk, hsz, hdr, hl, hx, hb⟩ := hrel
    have HBK := Lib.hid hbk
    have HX := Lib.hid hx
    have HB := Lib.hid hb
    have HU := Lib.hid hu
    have hu64 : (uu : Int) < 18446744073709551616 := by
      have : 16 ^ (16 - j) ≤ 16 ^ 16 := Nat.pow_le_pow_right (by omega) (by omega)
      omega
    have hand := u64_and15 uu (by omega) hu64
    have HDR := Lib.hid hdr
    have HSZ := Lib.hid hsz
    have HL := Lib.hid hl
    clear hbk hx hb hu hdr hsz hl
    by_cases hge : (16 : Int) ≤ (uu : Int)
    · have hk : uu % 16 < 16 := Nat.mod_lt _ (by omega)
      have HD := Lib.hid (digC_hex ⟨uu % 16, hk⟩)
      go_upto_region 13 with fail
      have hlit : ((uu : Int) % 16) = ((uu % 16 : Nat) : Int) := by omega
      have hidx := dig_index (uu % 16) hk
      rw [← hlit] at hidx
      have hpi : (65 - (j : Int) - 1).toNat = 64 - j := by omega
      clear hlit
      have hcell : wr.cell? ⟨w.heap.size, 64 - j, none⟩ = some cs[64 - j]! := by
        rw [HBK.out.cell, Array.getElem!_eq_getD, Array.getD_eq_getD_getElem?, Array.getElem?_eq_getElem (by rw [HSZ.out]; omega)]; rfl
      have hfz := HBK.out.frozen (64 - j)
      go_wp2_with fail
      have hj15 : j + 1 ≤ 15 := by
        rcases Nat.lt_or_ge j 15 with h | h
        · omega
        · have e := HU.out
          rw [show 16 - j = 1 by omega] at e
          omega
      have hup : uu / 16 < 16 ^ (16 - (j + 1)) := by
        have e := HU.out
        rw [show 16 - j = (16 - (j + 1)) + 1 by omega, Nat.pow_succ] at e
        exact Nat.div_lt_of_lt_mul (by omega)
      have hl64 : 64 - j < cs.toList.length := by rw [Array.length_toList, HSZ.out]; omega
      refine ⟨⟨j + 1, uu / 16, digC (uu % 16) :: hs, _, hj15, by congr 1; omega, by congr 1, hup, HBK.out.set _ _, by rw [Array.size_setIfInBounds, HSZ.out], ?_, by rw [List.length_cons, HL.out], ?_, HB.out.setCell (Nat.le_refl _) _⟩, ?_⟩
      · rw [Array.toList_setIfInBounds, show 65 - (j + 1) = 64 - j by omega, set_drop hl64, show 64 - j + 1 = 65 - j by omega, HDR.out]; rfl
      · intro c hc
        rw [List.mem_cons] at hc
        rcases hc with rfl | hc
        · exact HD.out
        · exact HX.out c hc
      · simp [intOf]; omega
    · have hk : uu < 16 := by omega
      have HD := Lib.hid (digC_hex ⟨uu, hk⟩)
      have hidx := dig_index uu hk
      have hpi : (65 - (j : Int) - 1).toNat = 64 - j := by omega
      have hcell : wr.cell? ⟨w.heap.size, 64 - j, none⟩ = some cs[64 - j]! := by
        rw [HBK.out.cell, Array.getElem!_eq_getD, Array.getD_eq_getD_getElem?, Array.getElem?_eq_getElem (by rw [HSZ.out]; omega)]; rfl
      have hfz := HBK.out.frozen (64 - j)
      clear hand
      go_upto_region 25 with fail
      generalize hw2 : World.setCell wr _ _ = w2
      have hl64 : 64 - j < cs.toList.length := by rw [Array.length_toList, HSZ.out]; omega
      have hb2 : Blk w2 w.heap.size 88 (cs.setIfInBounds (64 - j) (.int .u8 (digC uu).toNat)) := by subst hw2; exact HBK.out.set _ _
      have HB2 : Hid (Below w.heap.size w w2) := by subst hw2; exact HB.out.setCell (Nat.le_refl _) _
      have hdr2 : (cs.setIfInBounds (64 - j) (.int .u8 (digC uu).toNat)).toList.drop (64 - j) = bytesV (digC uu :: hs) := by
        rw [Array.toList_setIfInBounds, set_drop hl64, show 64 - j + 1 = 65 - j by omega, HDR.out]; rfl
      have hrd : Rd w2 (w.heap.size + 1) 1 (.slice (some ⟨w.heap.size, 64 - j, none⟩) (j + 1) (j + 1)) (j + 1) (bytesV (digC uu :: hs)) := by
        refine ⟨by simp [bytesV, HL.out], _, _, rfl, Nat.le_refl _, by unfold maxLen; omega, fun _ => ⟨_, _, rfl, by omega, fun i u hi => ?_⟩⟩
        rw [hb2.cell, ← Array.getElem?_toList, ← List.getElem?_drop, hdr2]
        exact hi
      have hcv := run_bytes_str (w := w2) 60 9 5 Tryd.underlying60 Tryd.underlying5 Tryd.underlying9 hrd
      have hsl := slice65 w.heap.size j hj w2
      clear hw2 hcell hfz hidx hb2 hdr2 hrd
      go_wp2_with fail
      go_ret2
      refine ⟨digC uu :: hs, rfl, ⟨by simp, by rw [List.length_cons, HL.out]; omega⟩, ?_, HB2.out⟩
      intro c hc
      rw [List.mem_cons] at hc
      rcases hc with rfl | hc
      · exact HD.out
      · exact HX.out c hc
end Go.Proofs.YtfoipadgicjcaaaDoor
