/- rule.Run: steps, plainly; the walk. -/
import Derived.Test.YtkandepkojfblaaRuleLaw
namespace Go.Proofs.Ytkandepkojfblaa
open Go.RowKit

def StepL (b lv : Int) (t u : List (Int × Int)) : Prop := u.Pairwise ltC ∧ ∀ c, c ∈ u ↔ liveC b lv t c = true
def Steps (b lv : Int) : Nat → List (Int × Int) → List (Int × Int) → Prop
  | 0, t, u => t = u
  | k + 1, t, u => ∃ s, StepL b lv t s ∧ s.length ≤ 4096 ∧ Steps b lv k s u
/-- Some step of the first k makes too many. -/
def Fails (b lv : Int) (k : Nat) (t : List (Int × Int)) : Prop :=
  ∃ j s L, j < k ∧ Steps b lv j t s ∧ List.Nodup L ∧ (∀ c, c ∈ L ↔ liveC b lv s c = true) ∧ 4096 < L.length
section
variable {b lv : Int} {t u s : List (Int × Int)} {k : Nat}
theorem sorted_nodup (h : t.Pairwise ltC) : t.Nodup := h.imp (S := fun a b => a ≠ b) fun {a b} hab e => ltC_irrefl a (by rw [← e] at hab; exact hab)
theorem StepL.det (h : StepL b lv t u) (h' : StepL b lv t s) : u = s := Tid.unique (l := u) ⟨h.1, fun _ => Iff.rfl⟩ ⟨h'.1, fun c => (h'.2 c).trans (h.2 c).symm⟩
theorem Steps.snoc : ∀ {k : Nat} {t : List (Int × Int)}, Steps b lv k t u → StepL b lv u s → s.length ≤ 4096 → Steps b lv (k + 1) t s
  | 0, _, h, hs, hl => by cases h; exact ⟨s, hs, hl, rfl⟩
  | _ + 1, _, ⟨q, h1, h2, h3⟩, hs, hl => ⟨q, h1, h2, Steps.snoc h3 hs hl⟩
theorem Steps.det : ∀ {k : Nat} {t : List (Int × Int)}, Steps b lv k t u → Steps b lv k t s → u = s
  | 0, _, h, h' => h.symm.trans h'
  | _ + 1, _, ⟨q, h1, _, h3⟩, ⟨q', h1', _, h3'⟩ => by
    obtain rfl := StepL.det h1 h1'
    exact Steps.det h3 h3'
theorem Steps.split (m : Nat) : ∀ {n : Nat} {t : List (Int × Int)}, Steps b lv (n + m) t u → ∃ s, Steps b lv n t s ∧ Steps b lv m s u
  | 0, t, h => ⟨t, rfl, by rwa [Nat.zero_add] at h⟩
  | n + 1, t, h => by
    rw [show n + 1 + m = n + m + 1 by omega] at h
    obtain ⟨q, h1, h2, h3⟩ := h
    obtain ⟨s, h4, h5⟩ := Steps.split m h3
    exact ⟨s, ⟨q, h1, h2, h4⟩, h5⟩
theorem Steps.not_fails (h : Steps b lv k t u) : ¬ Fails b lv k t := by
  rintro ⟨j, s, L, hj, hs, hn, hL, hlen⟩
  rw [show k = j + (k - j) by omega] at h
  obtain ⟨s', h1, h2⟩ := Steps.split (k - j) h
  obtain rfl := hs.det h1
  obtain ⟨i, hi⟩ : ∃ i, k - j = i + 1 := ⟨k - j - 1, by omega⟩
  rw [hi] at h2
  obtain ⟨q, h3, h4, _⟩ := h2
  have := nodup_len hn (sorted_nodup h3.1) fun c => (hL c).trans (h3.2 c).symm
  omega
theorem Fails.mono {m : Nat} (h : Fails b lv k t) (hm : k ≤ m) : Fails b lv m t := by
  obtain ⟨j, s, L, hj, r⟩ := h
  exact ⟨j, s, L, by omega, r⟩
theorem Steps.sorted : ∀ {k : Nat} {t : List (Int × Int)}, Steps b lv k t u → t.Pairwise ltC → u.Pairwise ltC
  | 0, _, h, ht => by cases h; exact ht
  | _ + 1, _, ⟨_, h1, _, h3⟩, _ => Steps.sorted h3 h1.1
theorem Steps.bd (hb : b % 2 = 0) : ∀ {k : Nat} {t : List (Int × Int)} {n : Int}, Steps b lv k t u → (∀ c ∈ t, (-n ≤ c.1 ∧ c.1 ≤ n) ∧ (-n ≤ c.2 ∧ c.2 ≤ n)) → ∀ c ∈ u, (-(n + k) ≤ c.1 ∧ c.1 ≤ n + k) ∧ (-(n + k) ≤ c.2 ∧ c.2 ≤ n + k)
  | 0, _, n, h, ht => by cases h; intro c hc; have := ht c hc; simpa using this
  | k + 1, _, n, ⟨q, h1, _, h3⟩, ht => by
    intro c hc
    have := Steps.bd (n := n + 1) hb h3 (fun d hd => live_bd hb ht ((h1.2 d).1 hd)) c hc
    rw [show n + 1 + (k : Int) = n + ((k + 1 : Nat) : Int) by omega] at this
    exact this
theorem tid_self (h : t.Pairwise ltC) : Tid t t := ⟨h, fun _ => Iff.rfl⟩
end

/-- What Run answers. -/
def RunPost (w : World) (b lv : Int) (k : Nat) (l : List (Int × Int)) (e : Ending) (w' : World) : Prop :=
  ∃ (v' : Value) (n' : Nat) (u : List (Int × Int)) (er : Int), e = .returned (.tuple #[v', .int .i64 er]) ∧ Rd w' w'.heap.size 2 v' n' (flat u) ∧ n' ≤ 4096 ∧ Below w.heap.size w w' ∧
    ∃ t, Tid l t ∧ ((er = 0 ∧ Steps b lv k t u) ∨ (er = 5 ∧ u = [] ∧ Fails b lv k t))

set_option maxRecDepth 100000 in
set_option maxHeartbeats 3200000 in
theorem run_any (w : World) (b lv : Int) (hg : goodR b lv) (k : Nat) (hk : k ≤ 256) (n : Nat) (v : Value) (l : List (Int × Int)) (h : Rd w w.heap.size 2 v n (flat l)) (hn : n ≤ 4096) (hok : ∀ c ∈ l, (-1000000 ≤ c.1 ∧ c.1 ≤ 1000000) ∧ (-1000000 ≤ c.2 ∧ c.2 ≤ 1000000)) :
    Calls Try.prog 9 #[.agg #[.int .i64 b, .int .i64 lv], v, .int .i64 k] w (RunPost w b lv k l) := by
  have H := Lib.hid h
  have HG := Lib.hid hg
  have HOK := Lib.hid hok
  have HLEN : Hid (l.length = n) := (h.pairs).1
  have hki : (k : Int) ≤ 256 := by omega
  clear h hg hok hk
  go_enter Try.func9, Try.ntmps9
  go_wp2_with fail
  (with_reducible refine (good_true _ b lv HG.out).mono ?_)
  rintro e w1 ⟨rfl, hb1⟩
  have hz1 := hb1.size
  rw [World.size_alloc] at hb1 hz1
  have HB1 : Hid (Below w.heap.size w w1) := ((Below.refl _ _).alloc (Nat.le_refl _) _).trans (hb1.mono (by omega))
  have HR1 : Hid (Blk w1 w.heap.size 23 #[.int .i64 b, .int .i64 lv]) := (hb1.block _ (by omega)).trans (Blk.new w _ _)
  have HZ1 := Lib.hid hz1
  clear hb1 hz1
  go_wp2_with fail
  (with_reducible refine (tidy_ok _ w.heap.size n _ l (H.out.below HB1.out) (Nat.le_trans (Nat.le_succ _) HZ1.out) hn (fun c hc => by have := HOK.out c hc; unfold okC okZ; omega)).mono ?_)
  rintro e w2 ⟨A1, m, t, rfl, ht, hs2, hf2, hb2⟩
  have HT := Lib.hid ht
  have HS2 := Lib.hid hs2.rd
  have HB2 : Hid (Below w.heap.size w w2) := HB1.out.trans (hb2.mono HB1.out.size)
  have HR2 : Hid (Blk w2 w.heap.size 23 #[.int .i64 b, .int .i64 lv]) := (hb2.block _ (by have := HZ1.out; omega)).trans HR1.out
  have hlen : t.length = m := by have e1 := hs2.1; rw [flat_length] at e1; omega
  have hm : m ≤ 4096 := by
    have e2 := tid_length ht
    have e3 := HLEN.out
    omega
  have HTB : Hid (∀ c ∈ t, (-1000000 ≤ c.1 ∧ c.1 ≤ 1000000) ∧ (-1000000 ≤ c.2 ∧ c.2 ≤ 1000000)) := fun c hc => HOK.out c ((tid_mem HT.out c).1 hc)
  clear ht hs2 hf2 hb2 hlen HB1 HR1 H
  go_wp2_with fail
  go_loopw [2, 8, 9] (fun nv sv ev wx => ∃ (j : Nat) (n' : Nat) (u : List (Int × Int)) (er : Int), j ≤ k ∧ nv = .int .i64 ((k : Int) - j) ∧ ev = .int .i64 er ∧ Rd wx wx.heap.size 2 sv n' (flat u) ∧ n' ≤ 4096 ∧ ((er = 0 ∧ Steps b lv j t u) ∨ (er = 5 ∧ u = [] ∧ Fails b lv j t)) ∧
      Blk wx w.heap.size 23 #[.int .i64 b, .int .i64 lv] ∧ Below w.heap.size w wx) (fun nv _ _ _ => (intOf nv).toNat)
  case atStart => exact ⟨0, m, t, 0, Nat.zero_le _, by simp, rfl, HS2.out, hm, .inl ⟨rfl, rfl⟩, HR2.out, HB2.out⟩
  case round =>
    obtain ⟨j, n', u, er, hj, rfl, rfl, hs, hn', ⟨rfl, hst⟩ | ⟨rfl, hu, hfl⟩, hr, hb⟩ := hrel
    · by_cases hlt : j < k
      · have hpos : (0 : Int) < (k : Int) - j := by omega
        have HS := Lib.hid hs
        have HST := Lib.hid hst
        have HR := Lib.hid hr
        have HB := Lib.hid hb
        have c0 : wr.cell? ⟨w.heap.size, 0, none⟩ = some (.int .i64 b) := hr.cellS rfl
        have c1 : wr.cell? ⟨w.heap.size, 1, none⟩ = some (.int .i64 lv) := hr.cellS rfl
        have HUB : Hid (∀ c ∈ u, tight c) := fun c hc => by
          have := Steps.bd (goodR_e HG.out) hst HTB.out c hc
          unfold tight; omega
        have HUS : Hid (u.Pairwise ltC) := hst.sorted HT.out.1
        clear hs hst hr hb
        go_wp2_with fail
        clear c0 c1
        (with_reducible refine (next_any _ b lv HG.out n' _ u HS.out hn' HUB.out).mono ?_)
        rintro e w3 ⟨t3, L, ht3, hnd, hL, hlen, hb3, hcase⟩
        obtain rfl := ht3.unique (tid_self HUS.out)
        have HR3 : Hid (Blk w3 w.heap.size 23 #[.int .i64 b, .int .i64 lv]) := (hb3.block _ HR.out.lt).trans HR.out
        have HB3 : Hid (Below w.heap.size w w3) := HB.out.trans (hb3.mono HB.out.size)
        rcases hcase with ⟨hfull, A, m', t', rfl, ht', hs', hf'⟩ | ⟨hfull, rfl⟩
        · have HS' := Lib.hid hs'.rd
          have hm' : t'.length = m' := by have e1 := hs'.1; rw [flat_length] at e1; omega
          have hm2 : m' ≤ 4096 := by have := tid_length ht'; omega
          have HST' : Hid (Steps b lv (j + 1) t t') := HST.out.snoc ⟨ht'.1, fun c => (tid_mem ht' c).trans (hL c)⟩ (by omega)
          clear hs' hf' ht' hm' hL hnd hlen hb3
          go_wp2_with fail
          go_roundw
          case rel => exact ⟨j + 1, m', t', 0, by omega, by go_num, rfl, HS'.out, hm2, .inl ⟨rfl, HST'.out⟩, HR3.out, HB3.out⟩
          case measure => simp [intOf]; omega
        · have HFL : Hid (Fails b lv (j + 1) t) := ⟨j, _, L, by omega, HST.out, hnd, hL, hfull⟩
          have HRN : Hid (Rd w3 w3.heap.size 2 (.slice none 0 0) 0 (flat [])) := (Sl.nil w3 41 2).rd
          clear hnd hL hlen hb3
          go_wp2_with fail
          go_roundw
          case rel => exact ⟨j + 1, 0, [], 5, by omega, by go_num, rfl, HRN.out, by omega, .inr ⟨rfl, rfl, HFL.out⟩, HR3.out, HB3.out⟩
          case measure => simp [intOf]; omega
      · obtain rfl : j = k := by omega
        have HS := Lib.hid hs
        have HST := Lib.hid hst
        have HB := Lib.hid hb
        clear hs hst hr hb
        go_wp2
        go_ret2
        exact ⟨_, n', u, 0, rfl, HS.out, hn', HB.out, t, HT.out, .inl ⟨rfl, HST.out⟩⟩
    · have HFL := Lib.hid (hfl.mono hj)
      have HB := Lib.hid hb
      have HRN : Hid (Rd wr wr.heap.size 2 (.slice none 0 0) 0 (flat [])) := (Sl.nil wr 41 2).rd
      clear hs hu hfl hr hb
      go_wp2
      all_goals (go_ret2; exact ⟨_, 0, [], 5, rfl, HRN.out, by omega, HB.out, t, HT.out, .inr ⟨rfl, rfl, HFL.out⟩⟩)
end Go.Proofs.Ytkandepkojfblaa
