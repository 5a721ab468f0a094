/- Slices of bytes and the strings made of them. -/
import Derived.Test.YtkandepkojfblaaMask
namespace Go.Proofs.Ytkandepkojfblaa
open Go.RowKit

theorem Try.info5 : (Try.prog.info? 5).map (fun i => (i.zero, i.size, i.bytes)) = some (some (.int .u8 0), 1, 1) := by kernel_rfl

/-- The cells of a slice of these bytes. -/
def bytesV (l : List UInt8) : List Value := l.map fun c => .int .u8 c.toNat
theorem bytesV_one {l : List UInt8} : ∀ u ∈ bytesV l, u.oneCell' = true := fun u hu => by
  obtain ⟨c, _, rfl⟩ := List.mem_map.1 hu; rfl
theorem bytesV_append (l m : List UInt8) : bytesV (l ++ m) = bytesV l ++ bytesV m := by simp [bytesV]
theorem foldl_push (l : List UInt8) : ∀ s : ByteArray, (l.map fun c => ((c.toNat : Nat) : Int)).foldl (fun r n => r.push (UInt8.ofNat n.toNat)) s = ⟨s.data ++ l.toArray⟩ := by
  induction l with
  | nil => intro s; simp
  | cons c r ih =>
    intro s
    simp only [List.map_cons, List.foldl_cons, ih]
    congr 1
    simp [ByteArray.push]
theorem run_bytes_str {w : World} {B n : Nat} {v : Value} {l : List UInt8} (src dst e : TypeId) (hs : Try.prog.underlying src = some (.slice e)) (he : Try.prog.underlying e = some (.int .u8)) (hd : Try.prog.underlying dst = some .string)
    (h : Rd w B 1 v n (bytesV l)) : (convert src dst v).run Try.prog w = .ok (.string (str l)) w := by
  obtain ⟨hl, A, cap, rfl, _, _, hat⟩ := h
  have hn : l.length = n := by simpa [bytesV] using hl
  rw [run_convert_bytes_string w src dst e A n cap hs he hd]
  rcases Nat.eq_zero_or_pos n with h0 | h0
  · subst h0
    have hl0 : l = [] := List.eq_nil_of_length_eq_zero hn
    subst hl0
    cases A with
    | none => unfold Conv.bytesToString; simp [Sem.run_pure, str]; rfl
    | some a =>
      have := run_bytesToString (P := Try.prog) w a 0 cap [] (by simpa using run_loadCells_list (P := Try.prog) w a [] (fun j v h => by simp at h))
      rw [this]; rfl
  · obtain ⟨b, off, rfl, _, hc⟩ := hat h0
    have := run_bytesToString (P := Try.prog) w ⟨b, off, none⟩ n cap (l.map fun c => ((c.toNat : Nat) : Int)) (by
      have := run_loadCells_list (P := Try.prog) w ⟨b, off, none⟩ (bytesV l) (fun j v h => by rw [Addr.add_lit]; exact hc j v h)
      rw [hl, Nat.mul_one] at this
      rw [this]
      simp [bytesV, List.map_map, Function.comp_def])
    rw [this, foldl_push]
    simp [str]
end Go.Proofs.Ytkandepkojfblaa
