/- lifelodgekeep.some: so many cells at most, nearer to 0 than a bound. · arena: Limit. -/
import Derived.IntWalk
import Derived.Deep.RegionHeld3
import Derived.Test.YtgdijlpkbbfedaaZ11
import Derived.Test.YtgdijlpkbbfedaaZ1

namespace Go.Proofs.Ytgdijlpkbbfedaa
open Go.RowKit

/-- One cell brought near. -/
def nearC (near : Int) (c : Int × Int) : Int × Int := (c.1 % (2 * near) - near, c.2 % (2 * near) - near)
def someL (l : List (Int × Int)) (most : Nat) (near : Int) : List (Int × Int) := (l.take most).map (nearC near)
theorem nearC_lt (near : Int) (h : 0 < near) (c : Int × Int) : (-near ≤ (nearC near c).1 ∧ (nearC near c).1 < near) ∧ (-near ≤ (nearC near c).2 ∧ (nearC near c).2 < near) := by
  unfold nearC
  have h1 := Int.emod_nonneg c.1 (show 2 * near ≠ 0 by omega)
  have h2 := Int.emod_lt_of_pos c.1 (show 0 < 2 * near by omega)
  have h3 := Int.emod_nonneg c.2 (show 2 * near ≠ 0 by omega)
  have h4 := Int.emod_lt_of_pos c.2 (show 0 < 2 * near by omega)
  dsimp only
  omega
theorem someL_near {l : List (Int × Int)} {most : Nat} {near : Int} (h : 0 < near) {c : Int × Int} (hc : c ∈ someL l most near) : (-near ≤ c.1 ∧ c.1 < near) ∧ (-near ≤ c.2 ∧ c.2 < near) := by
  unfold someL at hc
  simp only [List.mem_map] at hc
  obtain ⟨a, _, rfl⟩ := hc
  exact nearC_lt near h a
theorem someL_length (l : List (Int × Int)) (most : Nat) (near : Int) : (someL l most near).length = min most l.length := by simp [someL]
theorem someL_step (l : List (Int × Int)) (k : Nat) (near : Int) (hk : k < l.length) : someL l (k + 1) near = someL l k near ++ [nearC near l[k]!] := by
  unfold someL
  rw [List.take_add_one, List.map_append, List.getElem?_eq_getElem hk, List.getElem!_eq_getElem?_getD, List.getElem?_eq_getElem hk]
  simp

theorem cell_alloc_drew {w : World} {o : Obj} {b i : Nat} {u : Value} (hb : b < w.heap.size) (h : w.cell? ⟨b, i, none⟩ = some u) : ((w.alloc o).drew).cell? ⟨b, i, none⟩ = some u :=
  (World.cell?_alloc_lt w o (a := ⟨b, i, none⟩) hb).trans h
theorem cell_lt {w : World} {o : Obj} {b i : Nat} (hb : b < w.heap.size) : (⟨b, i, none⟩ : Addr).block < ((w.alloc o).drew).heap.size := by
  show b < (w.alloc o).heap.size
  rw [World.size_alloc]; omega

/-- The list that some gives: a slice of its own. -/
def SomePost (w : World) (n most : Nat) (l : List (Int × Int)) (near : Int) (e : Ending) (w' : World) : Prop :=
  ∃ v', e = .returned v' ∧ Sl w' 37 2 v' (min most n) (flat (someL l most near)) ∧ (∀ b, sblk v' = some b → w.heap.size ≤ b) ∧ Below w.heap.size w w'

set_option maxRecDepth 100000 in
set_option maxHeartbeats 3200000 in
theorem some_any (w : World) (n most : Nat) (v : Value) (l : List (Int × Int)) (near : Int) (h : Rd w w.heap.size 2 v n (flat l)) (hin : ∀ c ∈ l, inC c) (hmost : most ≤ 4096) (hn1 : 1 ≤ near) (hn2 : near ≤ 1152921504606846976) :
    Calls Try.prog 9 #[v, .int .i64 most, .int .i64 near] w (SomePost w n most l near) := by
  obtain ⟨A, cap, rfl, hc1, hc2⟩ := h.form
  obtain ⟨hl, hat⟩ := h.pairs
  have HAT := Lib.hid hat
  have HIN := Lib.hid hin
  have HL := Lib.hid hl
  have HNIL := Lib.hid (Sl.nil w 37 2)
  clear h hat hin hl
  unfold maxLen at hc2
  go_enter Try.func9, Try.ntmps9
  go_wp2
  go_loopw [7, 8] (fun av iv wx => ∃ k : Nat, k ≤ n ∧ k ≤ most ∧ iv = .int .i64 k ∧ Sl wx 37 2 av k (flat (someL l k near)) ∧ (∀ b, sblk av = some b → w.heap.size ≤ b) ∧ Below w.heap.size w wx) (fun _ iv _ => n - (intOf iv).toNat)
  case atStart => exact ⟨0, Nat.zero_le _, Nat.zero_le _, rfl, HNIL.out, fun b hb => by simp [sblk] at hb, Below.refl _ _⟩
  case round =>
    obtain ⟨k, hkn, hkm, rfl, hs, hf, hb⟩ := hrel
    by_cases hlt : k < n
    · by_cases hlm : k < most
      · obtain ⟨b, off, cap', he, _, _, hb1, hcs⟩ := HAT.out (by omega)
        injection he with he1 he2 he3
        subst he1 he3
        obtain ⟨c1, c2⟩ := hcs k hlt
        rw [← hb.cell (p := ⟨b, off + k * 2, none⟩) (by show b < _; omega)] at c1
        rw [← hb.cell (p := ⟨b, off + k * 2 + 1, none⟩) (by show b < _; omega)] at c2
        have hok : inC l[k]! := HIN.out _ (by rw [List.getElem!_eq_getElem?_getD, List.getElem?_eq_getElem (by rw [HL.out]; exact hlt)]; simp)
        have hstep := someL_step l k near (by rw [HL.out]; exact hlt)
        have hnr := nearC_lt near (by omega) l[k]!
        generalize l[k]! = c at c1 c2 hok hstep hnr
        obtain ⟨x, y⟩ := c
        obtain ⟨⟨o1, o2⟩, o3, o4⟩ := hok
        obtain ⟨⟨p1, p2⟩, p3, p4⟩ := hnr
        unfold nearC at p1 p2 p3 p4 hstep
        dsimp only at o1 o2 o3 o4 p1 p2 p3 p4
        have HSTEP := Lib.hid hstep
        have HS := Lib.hid hs
        have HF := Lib.hid hf
        have HB := Lib.hid hb
        have e1 := IntWalk.i64_in (2 * near) (by omega)
        have e2 := IntWalk.i64_in (x % (2 * near) - near) (by omega)
        have e3 := IntWalk.i64_in (y % (2 * near) - near) (by omega)
        have HX := Lib.hid (And.intro o1 o2)
        have HY := Lib.hid (And.intro o3 o4)
        have HNR : Hid (1 ≤ 2 * near ∧ 2 * near ≤ 4611686018427387904) := ⟨by omega, by omega⟩
        have hblt : b < wr.heap.size := Nat.lt_of_lt_of_le hb1 hb.size
        have hsz := hb.size
        clear hstep hs hf hb hcs p1 p2 p3 p4 o1 o2 o3 o4
        go_wp2_with fail
        go_region_held3 (fun w' => w'.cell? ⟨b, off + k * 2, none⟩ = some (.int .i64 x) ∧ w'.cell? ⟨b, off + k * 2 + 1, none⟩ = some (.int .i64 y)) (first | exact ⟨c1, c2⟩ | exact ⟨cell_alloc_drew hblt c1, cell_alloc_drew hblt c2⟩ | exact ⟨hm4c c1, hm4c c2⟩)
          (first
            | (go_at_call 10; refine (spot_any _ (2 * near) HNR.out.1 HNR.out.2 (by first | exact HX.out.1 | exact HY.out.1) (by first | exact HX.out.2 | exact HY.out.2) _).mono ?_; rintro e w' ⟨rfl, rfl⟩)
            | (refine step_append_sl _ rfl (.tmp 20) (.tmp 42) 24 rfl 37 (.agg #[.int .i64 0, .int .i64 0]) 2 16 Try.underlying24 Try.info37 rfl (by decide) rfl (by exact (HS.out.alloc _)) rfl (by exact (fresh_cells wr [(x % (2 * near) - near, y % (2 * near) - near)] 1 rfl (by unfold maxLen; omega))) flat_one (by omega) (by unfold maxLen; omega) ?_; intro v4 w4 hs4 hm4 hd4; have hm4c : ∀ {i : Nat} {u : Value}, wr.cell? ⟨b, i, none⟩ = some u → w4.cell? ⟨b, i, none⟩ = some u := fun h => (hm4.cell (a := ⟨b, _, none⟩) (cell_lt hblt) (fun he => by have := HF.out b he; omega)).trans (cell_alloc_drew hblt h)))
        have hba : Below w.heap.size w ((wr.alloc (.cells #[.int .i64 (x % (2 * near) - near), .int .i64 (y % (2 * near) - near)] 37)).drew) :=
          let hz := HB.out.alloc hsz (.cells #[.int .i64 (x % (2 * near) - near), .int .i64 (y % (2 * near) - near)] 37)
          ⟨hz.os, hz.tape, hz.output, hz.size, hz.block⟩
        obtain ⟨f1, f2⟩ := fresh_of (w := w) hm4 hd4 hba HF.out
        have HS4 : Hid (Sl w4 37 2 v4 (k + 1) (flat (someL l (k + 1) near))) := by
          show Sl _ _ _ _ _ _
          rw [HSTEP.out, flat_append]; exact hs4
        have HF1 := Lib.hid f1
        have HF2 := Lib.hid f2
        clear hs4 hm4 hd4 f1 f2 hba e1 e2 e3
        go_wp2
        go_roundw
        case rel => exact ⟨k + 1, by omega, by omega, by go_num, HS4.out, HF1.out, HF2.out⟩
        case measure => simp [intOf]; omega
      · obtain rfl : k = most := by omega
        have hmin : min k n = k := by omega
        have HS := Lib.hid hs
        have HF := Lib.hid hf
        have HB := Lib.hid hb
        clear hs hf hb
        go_wp2
        go_ret
        exact ⟨_, rfl, by rw [hmin]; exact HS.out, HF.out, HB.out⟩
    · obtain rfl : k = n := by omega
      have hmin : min most k = k := by omega
      have HS := Lib.hid hs
      have HF := Lib.hid hf
      have HB := Lib.hid hb
      have hall : someL l k near = someL l most near := by
        unfold someL
        rw [List.take_of_length_le (by have := HL.out; omega), List.take_of_length_le (by have := HL.out; omega)]
      have HALL := Lib.hid hall
      clear hs hf hb hall
      go_wp2
      go_ret
      exact ⟨_, rfl, by rw [hmin, ← HALL.out]; exact HS.out, HF.out, HB.out⟩
/-- The same, the bound a numeral. -/
theorem some_lit (w : World) (n most : Nat) (mi : Int) (hmi : mi = most) (v : Value) (l : List (Int × Int)) (near : Int) (h : Rd w w.heap.size 2 v n (flat l)) (hin : ∀ c ∈ l, inC c) (hmost : most ≤ 4096) (hn1 : 1 ≤ near) (hn2 : near ≤ 1152921504606846976) :
    Calls Try.prog 9 #[v, .int .i64 mi, .int .i64 near] w (SomePost w n most l near) := by
  subst hmi; exact some_any w n most v l near h hin hmost hn1 hn2
end Go.Proofs.Ytgdijlpkbbfedaa

namespace Go.Proofs.Ytgdijlpkbbfedaa
open Go.RowKit

set_option maxRecDepth 100000 in
theorem limit_any (w : World) (p : Nat) (R : ArR) (S : ArS) (h : ArM w p R S) (t : Nat) (ht : t < 64) (n : Int) (hn : 0 ≤ n ∧ n ≤ S.room) :
    Calls Try.prog 16 #[.pointer (some ⟨p, 0, none⟩), .int .i64 t, .int .i64 n] w fun e w' => e = .returned (.int .i64 0) ∧ ArM w' p R { S with quota := upd S.quota t n } ∧ Step p R R w w' := by
  have c0 := h.cRoom
  have c1 := h.cQuota ht
  have f1 := h.f (68 + t)
  have k4 : (t : Int) < 64 := by omega
  obtain ⟨hn1, hn2⟩ := hn
  have H := Lib.hid h
  clear h
  go_enter Try.func16, Try.ntmps16
  go_wp2_with fail
  (with_reducible refine (tenant_any w t).mono ?_)
  rintro e wq ⟨rfl, rfl⟩
  rw [decide_eq_true (show 0 ≤ (t : Int) ∧ (t : Int) < 64 by omega)]
  go_wp2_with fail
  go_ret
  exact ⟨rfl, H.out.put (arCells_quota R S ht n) rfl rfl rfl rfl rfl, Step.set H.out (q := ⟨p, 68 + t, none⟩) (.inl rfl) _⟩
end Go.Proofs.Ytgdijlpkbbfedaa
