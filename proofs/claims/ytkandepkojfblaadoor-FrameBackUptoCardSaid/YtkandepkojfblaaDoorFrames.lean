/- lifelodgekeep.frames: it answers true. -/
import Derived.Test.YtkandepkojfblaaDoorCut
import Derived.Test.YtkandepkojfblaaDoorWrap
namespace Go.Proofs.YtkandepkojfblaaDoor
open Go.RowKit

theorem wrap_lit (w : World) (B : ByteArray) (s : List UInt8) (hB : B = str s) (hs0 : s.length ≤ 1100000) :
    Calls Tryd.prog 7 #[.string B] w (WrapPost w s) := by subst hB; exact wrap_any w s hs0
theorem cut_lit (w : World) (m : Int) (hm : w.cell? ⟨4, 0, none⟩ = some (.int .i64 m)) (K L : ByteArray) (k0 l : List UInt8) (hK : K = str k0) (hL : L = str l) (hl : l.length ≤ 1100000) (hk : k0.length ≤ 6001) (hnl : (10 : UInt8) ∉ k0) :
    Calls Tryd.prog 18 #[.string K, .string L] w (CutPost w k0 l) := by subst hK hL; exact cut_any w m hm k0 l hl hk hnl
theorem feed_lit : feed [97] [98, 10, 99] = ([[97, 98]], [99]) := by decide +kernel

set_option maxRecDepth 100000 in
theorem frames_true (w : World) (m : Int) (hm : w.cell? ⟨4, 0, none⟩ = some (.int .i64 m)) :
    Calls Tryd.prog 9 #[] w fun e w' => e = .returned (.bool true) ∧ Below w.heap.size w w' := by
  have HM := Lib.hid hm
  clear hm
  go_enter Tryd.func9, Tryd.ntmps9
  go_wp2_with fail
  (with_reducible refine (cut_lit _ m HM.out ⟨#[97]⟩ ⟨#[98, 10, 99]⟩ [97] [98, 10, 99] rfl rfl (by decide) (by decide) (by decide)).mono ?_)
  rintro e w1 ⟨v, rfl, hs, hf, hb⟩
  rw [feed_lit] at hs ⊢
  have HB := Lib.hid hb
  obtain ⟨b, off, cap, rfl, _, hcap, _, hc, _⟩ := hs.at (by decide)
  have c0 : w1.cell? ⟨b, off, none⟩ = some (.string ⟨#[97, 98]⟩) := hc 0 _ rfl
  have hk : str [99] = ⟨#[99]⟩ := rfl
  unfold maxLen at hcap
  simp only [List.length_singleton]
  rw [hk]
  clear hs hf hb hc
  go_wp2_with fail
  (with_reducible refine (wrap_lit _ ⟨#[120]⟩ [120] rfl (by decide)).mono ?_)
  rintro e w2 ⟨rfl, hb2⟩
  have hsz : ((str (wrapL [120])).size : Int) = 128 := by rw [str_size, wrapL, dif_pos (by decide), frameOf_len (by decide)]; rfl
  have HB2 : Hid (Below w.heap.size w w2) := HB.out.trans (hb2.mono HB.out.size)
  clear hb2 c0
  generalize str (wrapL [120]) = S at hsz ⊢
  go_wp2
  go_ret
  exact ⟨rfl, HB2.out⟩
end Go.Proofs.YtkandepkojfblaaDoor
