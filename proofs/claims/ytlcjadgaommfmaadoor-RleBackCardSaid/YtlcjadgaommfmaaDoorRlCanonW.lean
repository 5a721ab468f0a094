/- RleCanon: the plain law. -/
import Derived.Test.YtlcjadgaommfmaaDoorRlEnc
import Derived.Test.YtlcjadgaommfmaaDoorRlLaw
namespace Go.Proofs.YtlcjadgaommfmaaDoor
open Go.RowKit

theorem tid_self {l t : List (Int × Int)} (h : DecI l) (ht : Tid l t) : t = l := ht.unique ⟨h.sort, fun _ => Iff.rfl⟩
theorem decI_ok {l : List (Int × Int)} (h : DecI l) : ∀ c ∈ l, okC c := fun c hc => by
  have := h.fits c hc
  unfold okC okZ
  omega
theorem box_shift {t : List (Int × Int)} {x0 y0 x1 y1 : Int} (h : IsBox t x0 y0 x1 y1) : IsBox (t.map fun c => (c.1 - x0, c.2 - y0)) 0 0 (x1 - x0) (y1 - y0) := by
  obtain ⟨⟨⟨a, a1, a2⟩, a3⟩, ⟨⟨b, b1, b2⟩, b3⟩, ⟨⟨c, c1, c2⟩, c3⟩, ⟨d, d1, d2⟩, d3⟩ := h
  have key : ∀ e ∈ t.map (fun c : Int × Int => (c.1 - x0, c.2 - y0)), ∃ f ∈ t, e = (f.1 - x0, f.2 - y0) := fun e he => by
    obtain ⟨f, hf, rfl⟩ := List.mem_map.1 he
    exact ⟨f, hf, rfl⟩
  refine ⟨⟨⟨_, List.mem_map.2 ⟨a, a1, rfl⟩, by dsimp only; omega⟩, fun e he => ?_⟩, ⟨⟨_, List.mem_map.2 ⟨b, b1, rfl⟩, by dsimp only; omega⟩, fun e he => ?_⟩, ⟨⟨_, List.mem_map.2 ⟨c, c1, rfl⟩, by dsimp only; omega⟩, fun e he => ?_⟩, ⟨_, List.mem_map.2 ⟨d, d1, rfl⟩, by dsimp only; omega⟩, fun e he => ?_⟩
  all_goals
    obtain ⟨f, hf, rfl⟩ := key e he
    have := a3 f hf
    have := b3 f hf
    have := c3 f hf
    have := d3 f hf
    dsimp only
    omega
/-- What is written of what was read is read, and written as itself. -/
theorem enc_canon {l t : List (Int × Int)} (h : DecI l) (ht : Tid l t) {b r : Int} {txt : List UInt8} (hg : goodR b r) (hnl : (10 : UInt8) ∉ textL b r) (he : EncIs t (textL b r) txt) (hlen : txt.length ≤ 20000) :
    ∃ l2, decodeR readR txt = (l2, (b, r), 0) ∧ DecI l2 ∧ ∀ t2 txt2, Tid l2 t2 → EncIs t2 (textL b r) txt2 → txt2 = txt := by
  obtain rfl := tid_self h ht
  rcases he with ⟨rfl, rfl⟩ | ⟨x0, y0, x1, y1, hne, hb, rfl⟩
  · have hd := dec_back readR [] 0 0 0 0 (textL b r) b r (read_text hg) hnl (by decide) (by decide) h.sort (fun c hc => by cases hc) (by decide) hlen
    refine ⟨_, hd, (dec_in hd).1, fun t2 txt2 ht2 he2 => ?_⟩
    have e2 := tid_self (dec_in hd).1 ht2
    rcases he2 with ⟨_, e⟩ | ⟨_, _, _, _, hn, _⟩
    · exact e
    · exact absurd e2 hn
  · have hin : ∀ c ∈ t, (x0 ≤ c.1 ∧ c.1 - x0 < (((x1 - x0 + 1).toNat : Nat) : Int)) ∧ (y0 ≤ c.2 ∧ c.2 - y0 < (((y1 - y0 + 1).toNat : Nat) : Int)) := fun c hc => by
      have h1 := hb.1.2 c hc
      have h2 := hb.2.1.2 c hc
      have h3 := hb.2.2.1.2 c hc
      have h4 := hb.2.2.2.2 c hc
      omega
    have hW : (x1 - x0 + 1).toNat < 1000000000000 ∧ (y1 - y0 + 1).toNat < 1000000000000 := by
      obtain ⟨⟨⟨a, a1, a2⟩, _⟩, ⟨⟨c, c1, c2⟩, _⟩, ⟨⟨d, d1, d2⟩, _⟩, ⟨e, e1, e2⟩, _⟩ := hb
      have := h.fits a a1
      have := h.fits c c1
      have := h.fits d d1
      have := h.fits e e1
      omega
    have hd := dec_back readR t x0 y0 _ _ (textL b r) b r (read_text hg) hnl hW.1 hW.2 h.sort hin h.few hlen
    refine ⟨_, hd, (dec_in hd).1, fun t2 txt2 ht2 he2 => ?_⟩
    have e2 := tid_self (dec_in hd).1 ht2
    rcases he2 with ⟨e, _⟩ | ⟨a0, b0, a1, b1, _, hb2, rfl⟩
    · rw [e2, List.map_eq_nil_iff] at e
      exact absurd e hne
    · rw [e2] at hb2 ⊢
      obtain ⟨rfl, rfl, rfl, rfl⟩ := isBox_unique hb2 (box_shift hb)
      rw [enc_shift, Int.sub_zero, Int.sub_zero]
end Go.Proofs.YtlcjadgaommfmaaDoor
