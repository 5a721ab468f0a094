/- Strings by their bytes; slices of bytes; what an append leaves. -/
import Derived.Test.YtlcjadgaommfmaaDoorRows
import Derived.Test.YtlcjadgaommfmaaDoorAppW
import Derived.Laws.Strings3
import Derived.Laws.BytesString
import Derived.Outline
namespace Go.Proofs.YtlcjadgaommfmaaDoor
open Go.RowKit

/-- A string by its bytes. -/
def str (l : List UInt8) : ByteArray := ⟨l.toArray⟩
theorem str_size (l : List UInt8) : (str l).size = l.length := by simp [str, ByteArray.size]

theorem str_cons_pos (c : UInt8) (s : List UInt8) : 0 < (str (c :: s)).size := by rw [str_size]; simp
theorem str_cons_get (c : UInt8) (s : List UInt8) : (str (c :: s))[0]'(str_cons_pos c s) = c := rfl
theorem str_toList (s : List UInt8) : (str s).toList = s := by rw [ByteArray.toList_eq]; simp [str]
theorem str_cons_ne (c : UInt8) (s : List UInt8) : (str (c :: s)).toList.isEmpty = false := by rw [str_toList]; rfl
theorem str_nil_e : (str []).toList.isEmpty = true := by rw [str_toList]; rfl
theorem str_tail (c : UInt8) (s : List UInt8) : (str (c :: s)).extract 1 (str (c :: s)).size = str s := by
  rw [str_size]; unfold str; rw [ByteArray.extract_mk]; simp
theorem str_append (a b : List UInt8) : str a ++ str b = str (a ++ b) := by
  apply ByteArray.ext; simp [str]
theorem str_take (l : List UInt8) (n : Nat) : (str l).extract 0 n = str (l.take n) := by
  unfold str; rw [ByteArray.extract_mk]; simp
theorem str_drop (l : List UInt8) (n : Nat) : (str l).extract n (str l).size = str (l.drop n) := by
  rw [str_size]; unfold str; rw [ByteArray.extract_mk]; rw [List.take_of_length_le (by simp)]
theorem str_two (x y : UInt8) (s : List UInt8) : ((str (x :: y :: s)).extract 0 2).toList = [x, y] := by
  unfold str; rw [ByteArray.extract_mk, ByteArray.toList_eq]; simp
theorem str_two_tail (x y : UInt8) (s : List UInt8) : (str (x :: y :: s)).extract 2 (str (x :: y :: s)).size = str s := by
  rw [str_size]; unfold str; rw [ByteArray.extract_mk]; simp
theorem Tryd.info5 : (Tryd.prog.info? 5).map (fun i => (i.zero, i.size, i.bytes)) = some (some (.int .u8 0), 1, 1) := by kernel_rfl

/-- The cells of a slice of these bytes. -/
def bytesV (l : List UInt8) : List Value := l.map fun c => .int .u8 c.toNat
theorem bytesV_one {l : List UInt8} : ∀ u ∈ bytesV l, u.oneCell' = true := fun u hu => by
  obtain ⟨c, _, rfl⟩ := List.mem_map.1 hu; rfl
theorem bytesV_append (l m : List UInt8) : bytesV (l ++ m) = bytesV l ++ bytesV m := by simp [bytesV]
theorem foldl_push (l : List UInt8) : ∀ s : ByteArray, (l.map fun c => ((c.toNat : Nat) : Int)).foldl (fun r n => r.push (UInt8.ofNat n.toNat)) s = ⟨s.data ++ l.toArray⟩ := by
  induction l with
  | nil => intro s; simp
  | cons c r ih =>
    intro s
    simp only [List.map_cons, List.foldl_cons, ih]
    congr 1
    simp [ByteArray.push]
theorem run_bytes_str {w : World} {B n : Nat} {v : Value} {l : List UInt8} (src dst e : TypeId) (hs : Tryd.prog.underlying src = some (.slice e)) (he : Tryd.prog.underlying e = some (.int .u8)) (hd : Tryd.prog.underlying dst = some .string)
    (h : Rd w B 1 v n (bytesV l)) : (convert src dst v).run Tryd.prog w = .ok (.string (str l)) w := by
  obtain ⟨hl, A, cap, rfl, _, _, hat⟩ := h
  have hn : l.length = n := by simpa [bytesV] using hl
  rw [run_convert_bytes_string w src dst e A n cap hs he hd]
  rcases Nat.eq_zero_or_pos n with h0 | h0
  · subst h0
    have hl0 : l = [] := List.eq_nil_of_length_eq_zero hn
    subst hl0
    cases A with
    | none => unfold Conv.bytesToString; simp [Sem.run_pure, str]; rfl
    | some a =>
      have := run_bytesToString (P := Tryd.prog) w a 0 cap [] (by simpa using run_loadCells_list (P := Tryd.prog) w a [] (fun j v h => by simp at h))
      rw [this]; rfl
  · obtain ⟨b, off, rfl, _, hc⟩ := hat h0
    have := run_bytesToString (P := Tryd.prog) w ⟨b, off, none⟩ n cap (l.map fun c => ((c.toNat : Nat) : Int)) (by
      have := run_loadCells_list (P := Tryd.prog) w ⟨b, off, none⟩ (bytesV l) (fun j v h => by rw [Addr.add_lit]; exact hc j v h)
      rw [hl, Nat.mul_one] at this
      rw [this]
      simp [bytesV, List.map_map, Function.comp_def])
    rw [this, foldl_push]
    simp [str]
theorem fresh_byte (w : World) (c : UInt8) : Rd (w.alloc (.cells #[.int .u8 c.toNat] 5)) (w.heap.size + 1) 1 (.slice (some ⟨w.heap.size, 0, none⟩) 1 1) 1 (bytesV [c]) :=
  Rd.fresh w 5 #[.int .u8 c.toNat] 1 1 rfl (by unfold maxLen; omega)

end Go.Proofs.YtlcjadgaommfmaaDoor
