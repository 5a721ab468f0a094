/- Life, plainly: a step of cells that are moved or mirrored; a step reaches at most one cell beyond. -/
import Derived.Test.YtkandepkojfblaaLife
namespace Go.Proofs.Ytkandepkojfblaa

theorem nodup_len {a b : List (Int × Int)} (ha : a.Nodup) (hb : b.Nodup) (h : ∀ c, c ∈ a ↔ c ∈ b) : a.length = b.length :=
  Nat.le_antisymm (List.Nodup.length_le_of_subset ha fun c hc => (h c).1 hc) (List.Nodup.length_le_of_subset hb fun c hc => (h c).2 hc)

/-- A map of the plane that keeps neighbours. -/
structure Keeps (f : Int × Int → Int × Int) : Prop where
  inj : ∀ c d, f c = f d → c = d
  onto : ∀ c, ∃ d, f d = c
  close : ∀ c d, close (f c) (f d) ↔ close c d

theorem nodup_map {f : Int × Int → Int × Int} (hf : ∀ c d, f c = f d → c = d) {l : List (Int × Int)} (h : l.Nodup) : (l.map f).Nodup :=
  List.Pairwise.map f (fun a b hab e => hab (hf a b e)) h

theorem adj_keeps {f : Int × Int → Int × Int} (hf : Keeps f) (c s : Int × Int) : adj (f c) (f s) = adj c s := by
  unfold adj
  rw [decide_eq_decide, hf.close, ne_eq, ne_eq]
  constructor
  · rintro ⟨h1, h2⟩; exact ⟨h1, fun e => h2 (by rw [e])⟩
  · rintro ⟨h1, h2⟩; exact ⟨h1, fun e => h2 (hf.inj _ _ e)⟩

theorem cnt_keeps {f : Int × Int → Int × Int} (hf : Keeps f) {t u : List (Int × Int)} (ht : t.Nodup) (hu : u.Nodup) (h : ∀ c, f c ∈ u ↔ c ∈ t) (c : Int × Int) : cnt u (f c) = cnt t c := by
  unfold cnt
  rw [show (t.filter (adj c)).length = ((t.filter (adj c)).map f).length by rw [List.length_map]]
  refine nodup_len (hu.sublist List.filter_sublist) (nodup_map hf.inj (ht.sublist List.filter_sublist)) fun s => ?_
  obtain ⟨d, rfl⟩ := hf.onto s
  rw [List.mem_filter, List.mem_map, h, adj_keeps hf]
  constructor
  · rintro ⟨h1, h2⟩; exact ⟨d, List.mem_filter.2 ⟨h1, h2⟩, rfl⟩
  · rintro ⟨e, he, hfe⟩
    obtain rfl := hf.inj _ _ hfe
    exact List.mem_filter.1 he

theorem live_keeps {f : Int × Int → Int × Int} (hf : Keeps f) {t u : List (Int × Int)} (ht : t.Nodup) (hu : u.Nodup) (h : ∀ c, f c ∈ u ↔ c ∈ t) (b l : Int) (c : Int × Int) : liveC b l u (f c) = liveC b l t c := by
  unfold liveC
  rw [cnt_keeps hf ht hu h]
  have : decide (f c ∈ u) = decide (c ∈ t) := by rw [decide_eq_decide]; exact h c
  rw [this]

theorem keeps_mem {f : Int × Int → Int × Int} (hf : Keeps f) {l t u : List (Int × Int)} (ht : Tid l t) (hu : Tid (l.map f) u) (c : Int × Int) : f c ∈ u ↔ c ∈ t := by
  rw [hu.2, ht.2, List.mem_map]
  constructor
  · rintro ⟨d, hd, e⟩; exact hf.inj _ _ e ▸ hd
  · intro h; exact ⟨c, h, rfl⟩

/-- A step of the moved cells is the moved step. -/
theorem step_keeps {f : Int × Int → Int × Int} (hf : Keeps f) {b lv : Int} {l t u A B p q r : List (Int × Int)} (ht : Tid l t) (hu : Tid (l.map f) u)
    (hA : ∀ c, c ∈ A ↔ liveC b lv t c = true) (hB : ∀ c, c ∈ B ↔ liveC b lv u c = true) (hp : Tid A p) (hq : Tid B q) (hr : Tid (p.map f) r) : q = r := by
  refine hq.unique ⟨hr.1, fun c => ?_⟩
  obtain ⟨d, rfl⟩ := hf.onto c
  rw [keeps_mem hf (t := p) (l := p) ⟨hp.1, fun _ => Iff.rfl⟩ hr, hp.2, hA, hB, live_keeps hf (tid_nodup ht) (tid_nodup hu) (keeps_mem hf ht hu)]

theorem keeps_shift (a b : Int) : Keeps fun c => (c.1 + a, c.2 + b) where
  inj := fun c d h => by
    obtain ⟨x, y⟩ := c; obtain ⟨u, v⟩ := d
    simp only [Prod.mk.injEq] at h ⊢; omega
  onto := fun c => ⟨(c.1 - a, c.2 - b), by apply Prod.ext <;> dsimp only <;> omega⟩
  close := fun c d => by unfold close; dsimp only; omega

/-- The eight ways: bit 0 turns the sign of x, bit 1 that of y, bit 2 swaps. -/
def flC (way : Nat) (c : Int × Int) : Int × Int :=
  let x := if way % 2 = 1 then -c.1 else c.1
  let y := if way / 2 % 2 = 1 then -c.2 else c.2
  if way / 4 % 2 = 1 then (y, x) else (x, y)
theorem keeps_flip (way : Nat) : Keeps (flC way) where
  inj := fun c d h => by
    obtain ⟨x, y⟩ := c; obtain ⟨u, v⟩ := d
    unfold flC at h
    dsimp only at h
    split at h <;> split at h <;> split at h <;> simp only [Prod.mk.injEq] at h ⊢ <;> omega
  onto := fun c => by
    obtain ⟨x, y⟩ := c
    refine ⟨if way / 4 % 2 = 1 then (if way % 2 = 1 then -y else y, if way / 2 % 2 = 1 then -x else x) else (if way % 2 = 1 then -x else x, if way / 2 % 2 = 1 then -y else y), ?_⟩
    unfold flC
    dsimp only
    by_cases h1 : way % 2 = 1 <;> by_cases h2 : way / 2 % 2 = 1 <;> by_cases h4 : way / 4 % 2 = 1 <;> simp [h1, h2, h4]
  close := fun c d => by
    obtain ⟨x, y⟩ := c; obtain ⟨u, v⟩ := d
    unfold flC close
    dsimp only
    by_cases h1 : way % 2 = 1 <;> by_cases h2 : way / 2 % 2 = 1 <;> by_cases h4 : way / 4 % 2 = 1 <;> simp only [h1, h2, h4, if_pos, if_neg, not_false_eq_true] <;> omega
theorem flC_bd {way : Nat} {c : Int × Int} {n : Int} (h : (-n ≤ c.1 ∧ c.1 ≤ n) ∧ (-n ≤ c.2 ∧ c.2 ≤ n)) : (-n ≤ (flC way c).1 ∧ (flC way c).1 ≤ n) ∧ (-n ≤ (flC way c).2 ∧ (flC way c).2 ≤ n) := by
  unfold flC
  dsimp only
  split <;> split <;> split <;> dsimp only <;> omega
theorem live_bd {b lv : Int} (hb : b % 2 = 0) {t : List (Int × Int)} {n : Int} (h : ∀ c ∈ t, (-n ≤ c.1 ∧ c.1 ≤ n) ∧ (-n ≤ c.2 ∧ c.2 ≤ n)) {c : Int × Int} (hc : liveC b lv t c = true) : (-(n + 1) ≤ c.1 ∧ c.1 ≤ n + 1) ∧ (-(n + 1) ≤ c.2 ∧ c.2 ≤ n + 1) := by
  obtain ⟨s, hs, hcl⟩ := live_close hb hc
  have := h s hs
  unfold close at hcl
  omega
end Go.Proofs.Ytkandepkojfblaa
