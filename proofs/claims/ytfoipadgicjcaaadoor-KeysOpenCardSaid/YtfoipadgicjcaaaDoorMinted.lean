/- lifelodgekeep.minted: the walk. -/
import Derived.Test.YtfoipadgicjcaaaDoorFind
import Derived.Test.YtfoipadgicjcaaaDoorW0
namespace Go.Proofs.YtfoipadgicjcaaaDoor
open Go.RowKit

structure WantD where
  name : ByteArray
  rights : Int
  draw : Int
def wantV (k : WantD) : List Value := [.string k.name, .int .i64 k.rights, .int .i64 k.draw]
def wantsV (l : List WantD) : List Value := l.flatMap wantV
theorem wantsV_at : ∀ (K : List WantD) (i : Nat) (k : WantD), K[i]? = some k → ∀ j, j < 3 → (wantsV K)[i * 3 + j]? = (wantV k)[j]?
  | [], i, k, h => by simp at h
  | a :: K, 0, k, h => fun j hj => by
    simp at h; subst h
    rw [wantsV, List.flatMap_cons, List.getElem?_append_left (by simp [wantV]; omega), Nat.zero_mul, Nat.zero_add]
  | a :: K, i + 1, k, h => fun j hj => by
    simp at h
    rw [wantsV, List.flatMap_cons, List.getElem?_append_right (by simp [wantV]; omega), ← wantsV_at K i k h j hj]
    simp only [wantV, List.length_cons, List.length_nil]
    congr 1; omega
/-- Keys that were minted of wants. -/
def Made (L : List WantD) (K : List KeyD) : Prop := ∀ (j : Nat) k, K[j]? = some k → ∃ h wd, L[j]? = some wd ∧ ((1 ≤ h.length ∧ h.length ≤ 16) ∧ ∀ c ∈ h, hexC c) ∧ k = ⟨keyT j h, wd.name, 1 + wd.rights % 3⟩
theorem Made.snoc {L : List WantD} {K : List KeyD} (hm : Made L K) {h : List UInt8} {wd : WantD} (hL : L[K.length]? = some wd) (hh : (1 ≤ h.length ∧ h.length ≤ 16) ∧ ∀ c ∈ h, hexC c) : Made L (K ++ [⟨keyT K.length h, wd.name, 1 + wd.rights % 3⟩]) := fun j k hj => by
  rcases Nat.lt_trichotomy j K.length with hl | rfl | hl
  · rw [List.getElem?_append_left hl] at hj; exact hm j k hj
  · rw [List.getElem?_append_right (Nat.le_refl _), Nat.sub_self] at hj
    exact ⟨h, wd, hL, hh, (Option.some.inj hj).symm⟩
  · rw [List.getElem?_eq_none (by simp; omega)] at hj; cases hj
def i64 (x : Int) : Prop := -9223372036854775808 ≤ x ∧ x ≤ 9223372036854775807
theorem Tryd.infoStr2 : (Tryd.prog.info? 9).map (fun i => (i.zero, i.size, i.bytes)) = some (some (.string ⟨#[]⟩), 1, 16) := by kernel_rfl
def textsV (K : List KeyD) : List Value := K.map fun k => .string (str k.text)

theorem minted_a {wr w5 : World} {H b o : Nat} {u0 u1 v0 v1 v2 : Value} (hb : Below wr.heap.size wr w5) (h1 : H + 1 < wr.heap.size) (h2 : b < wr.heap.size) (d0 : wr.cell? ⟨H + 1, 0, none⟩ = some u0) (d1 : wr.cell? ⟨H + 1, 1, none⟩ = some u1)
    (c0 : wr.cell? ⟨b, o, none⟩ = some v0) (c1 : wr.cell? ⟨b, o + 1, none⟩ = some v1) (c2 : wr.cell? ⟨b, o + 2, none⟩ = some v2) :
    w5.cell? ⟨H + 1, 0, none⟩ = some u0 ∧ w5.cell? ⟨H + 1, 1, none⟩ = some u1 ∧ w5.cell? ⟨b, o, none⟩ = some v0 ∧ w5.cell? ⟨b, o + 1, none⟩ = some v1 ∧ w5.cell? ⟨b, o + 2, none⟩ = some v2 ∧ H + 1 < w5.heap.size ∧ b < w5.heap.size :=
  ⟨(hb.cell (p := ⟨H + 1, 0, none⟩) h1).trans d0, (hb.cell (p := ⟨H + 1, 1, none⟩) h1).trans d1, (hb.cell (p := ⟨b, o, none⟩) h2).trans c0, (hb.cell (p := ⟨b, o + 1, none⟩) h2).trans c1, (hb.cell (p := ⟨b, o + 2, none⟩) h2).trans c2, Nat.lt_of_lt_of_le h1 hb.size, Nat.lt_of_lt_of_le h2 hb.size⟩

theorem minted_b {wr w5 : World} {B : Nat} (hb : Below B (wr.alloc (.cells #[.int .i64 0, .slice none 0 0] TB)).drew w5) (hB : B = (wr.alloc (.cells #[.int .i64 0, .slice none 0 0] TB)).heap.size := by rfl) :
    Below wr.heap.size wr w5 ∧ w5.cell? ⟨wr.heap.size, 0, none⟩ = some (.int .i64 0) ∧ w5.cell? ⟨wr.heap.size, 1, none⟩ = some (.slice none 0 0) ∧ w5.frozen? ⟨wr.heap.size, 0, none⟩ = false ∧ w5.frozen? ⟨wr.heap.size, 1, none⟩ = false ∧ wr.heap.size < w5.heap.size := by
  subst hB
  have hk : Blk w5 wr.heap.size TB #[.int .i64 0, .slice none 0 0] := (hb.block _ (by rw [World.size_alloc]; omega)).trans (Blk.new wr TB #[.int .i64 0, .slice none 0 0])
  exact ⟨(((Below.refl _ wr).alloc (Nat.le_refl _) _).drew).trans (hb.mono (by rw [World.size_alloc]; omega)), hk.cellS rfl, hk.cellS rfl, hk.frozen 0, hk.frozen 1, hk.lt⟩

theorem minted_c {w5 : World} {H b o p : Nat} {u0 u1 v0 v1 v2 x y : Value} (h1 : H + 1 < p) (h2 : b < p) (d0 : w5.cell? ⟨H + 1, 0, none⟩ = some u0) (d1 : w5.cell? ⟨H + 1, 1, none⟩ = some u1)
    (c0 : w5.cell? ⟨b, o, none⟩ = some v0) (c1 : w5.cell? ⟨b, o + 1, none⟩ = some v1) (c2 : w5.cell? ⟨b, o + 2, none⟩ = some v2) :
    ((w5.setCell ⟨p, 0, none⟩ x).setCell ⟨p, 1, none⟩ y).cell? ⟨H + 1, 0, none⟩ = some u0 ∧ ((w5.setCell ⟨p, 0, none⟩ x).setCell ⟨p, 1, none⟩ y).cell? ⟨H + 1, 1, none⟩ = some u1 ∧ ((w5.setCell ⟨p, 0, none⟩ x).setCell ⟨p, 1, none⟩ y).cell? ⟨b, o, none⟩ = some v0 ∧
      ((w5.setCell ⟨p, 0, none⟩ x).setCell ⟨p, 1, none⟩ y).cell? ⟨b, o + 1, none⟩ = some v1 ∧ ((w5.setCell ⟨p, 0, none⟩ x).setCell ⟨p, 1, none⟩ y).cell? ⟨b, o + 2, none⟩ = some v2 := by
  have far : ∀ a : Addr, a.block ≠ p → ((w5.setCell ⟨p, 0, none⟩ x).setCell ⟨p, 1, none⟩ y).cell? a = w5.cell? a := fun a ha =>
    (World.cell?_of_block (Below.heap_setCell _ ⟨p, 1, none⟩ y a.block ha)).trans (World.cell?_of_block (Below.heap_setCell _ ⟨p, 0, none⟩ x a.block ha))
  exact ⟨(far _ (by show H + 1 ≠ p; omega)).trans d0, (far _ (by show H + 1 ≠ p; omega)).trans d1, (far _ (by show b ≠ p; omega)).trans c0, (far _ (by show b ≠ p; omega)).trans c1, (far _ (by show b ≠ p; omega)).trans c2⟩

/-- Within a round, behind Mint: u's block is p. -/
structure MidM (w w6 : World) (p i : Nat) (v1 v5 tv : Value) (xs ts : List Value) : Prop where
  below : Below w.heap.size w w6
  ho : Blk w6 w.heap.size TB #[.int .i64 0, .slice none 0 0]
  ht : Blk w6 (w.heap.size + 1) TB #[.int .i64 i, v1]
  hu : Blk w6 p TB #[.int .i64 (i + 1), v5]
  hs : Sl w6 KY 3 v5 (i + 1) xs
  hf : ∀ b, sblk v5 = some b → w.heap.size + 1 < b
  hts : Sl w6 9 1 tv i ts
  htf : ∀ b, sblk tv = some b → w.heap.size + 1 < b
  nums : w.heap.size + 1 < p
  htp : sblk tv ≠ some p
theorem midm_a {w wr w5 : World} {i : Nat} {v1 v5 tv : Value} {xs ts : List Value} (hb : Below w.heap.size w wr) (ho : Blk wr w.heap.size TB #[.int .i64 0, .slice none 0 0]) (ht : Blk wr (w.heap.size + 1) TB #[.int .i64 i, v1])
    (hts : Sl wr 9 1 tv i ts) (htf : ∀ b, sblk tv = some b → w.heap.size + 1 < b) (hb6 : Below wr.heap.size wr w5) (hs5 : Sl w5 KY 3 v5 (i + 1) xs) (hf5 : ∀ b, sblk v5 = some b → wr.heap.size ≤ b) :
    MidM w (w5.alloc (.cells #[.int .i64 (i + 1), v5] TB)) w5.heap.size i v1 v5 tv xs ts := by
  have h1 := ht.lt
  have h2 := hb6.size
  have ho5 : Blk w5 w.heap.size TB #[.int .i64 0, .slice none 0 0] := (hb6.block _ ho.lt).trans ho
  have ht5 : Blk w5 (w.heap.size + 1) TB #[.int .i64 i, v1] := (hb6.block _ h1).trans ht
  exact ⟨(hb.trans (hb6.mono hb.size)).alloc (Nat.le_trans hb.size h2) _, ho5.alloc _, ht5.alloc _, Blk.new _ _ _, hs5.alloc _, fun b hb' => by have := hf5 b hb'; omega,
    (hts.of_blk fun b hb' => hb6.block b (hts.lt hb').1).alloc _, htf, by omega, fun e => by have := (hts.lt e).1; omega⟩
theorem midm_b {w wr w5 : World} {i : Nat} {v1 v5 tv : Value} {xs ts : List Value} (hb : Below w.heap.size w wr) (ho : Blk wr w.heap.size TB #[.int .i64 0, .slice none 0 0]) (ht : Blk wr (w.heap.size + 1) TB #[.int .i64 i, v1])
    (hts : Sl wr 9 1 tv i ts) (htf : ∀ b, sblk tv = some b → w.heap.size + 1 < b) {B : Nat} (hb5 : Below B (wr.alloc (.cells #[.int .i64 0, .slice none 0 0] TB)).drew w5) (hB : B = (wr.alloc (.cells #[.int .i64 0, .slice none 0 0] TB)).heap.size) (hs5 : Sl w5 KY 3 v5 (i + 1) xs) (hf5 : ∀ b, sblk v5 = some b → B ≤ b) :
    MidM w ((w5.setCell ⟨wr.heap.size, 0, none⟩ (.int .i64 (i + 1))).setCell ⟨wr.heap.size, 1, none⟩ v5) wr.heap.size i v1 v5 tv xs ts := by
  subst hB
  have hk : Blk w5 wr.heap.size TB #[.int .i64 0, .slice none 0 0] := (hb5.block _ (by rw [World.size_alloc]; omega)).trans (Blk.new wr TB #[.int .i64 0, .slice none 0 0])
  have h1 := ht.lt
  have h2 := hb.size
  have hb6 : Below wr.heap.size wr w5 := (((Below.refl _ wr).alloc (Nat.le_refl _) _).drew).trans (hb5.mono (by rw [World.size_alloc]; omega))
  have ho5 : Blk w5 w.heap.size TB #[.int .i64 0, .slice none 0 0] := (hb6.block _ ho.lt).trans ho
  have ht5 : Blk w5 (w.heap.size + 1) TB #[.int .i64 i, v1] := (hb6.block _ h1).trans ht
  have hne : sblk v5 ≠ some wr.heap.size := fun e => by have := hf5 _ e; rw [World.size_alloc] at this; omega
  have hnt : sblk tv ≠ some wr.heap.size := fun e => by have := (hts.lt e).1; omega
  exact ⟨((hb.trans (hb6.mono h2)).setCell (p := ⟨wr.heap.size, 0, none⟩) h2 _).setCell (p := ⟨wr.heap.size, 1, none⟩) h2 _,
    (ho5.far (p := ⟨wr.heap.size, 0, none⟩) (by show w.heap.size ≠ wr.heap.size; omega) _).far (p := ⟨wr.heap.size, 1, none⟩) (by show w.heap.size ≠ wr.heap.size; omega) _,
    (ht5.far (p := ⟨wr.heap.size, 0, none⟩) (by show w.heap.size + 1 ≠ wr.heap.size; omega) _).far (p := ⟨wr.heap.size, 1, none⟩) (by show w.heap.size + 1 ≠ wr.heap.size; omega) _,
    (hk.set 0 _).set 1 _, (hs5.far (p := ⟨wr.heap.size, 0, none⟩) hne _).far (p := ⟨wr.heap.size, 1, none⟩) hne _, fun b hb' => by have := hf5 b hb'; rw [World.size_alloc] at this; omega,
    ((hts.of_blk fun b hb' => hb6.block b (hts.lt hb').1).far (p := ⟨wr.heap.size, 0, none⟩) hnt _).far (p := ⟨wr.heap.size, 1, none⟩) hnt _, htf, by omega, hnt⟩

theorem minted_d {w w6 w7 : World} {p i : Nat} {v1 v5 tv v7 : Value} {xs ts : List Value} {o : Obj} (hM : MidM w w6 p i v1 v5 tv xs ts) (hm0 : Mod (fun b => sblk tv = some b) (w6.alloc o).drew w7)
    (hd0 : sblk v7 = sblk tv ∨ sblk v7 = some (w6.alloc o).drew.heap.size ∧ (w6.alloc o).drew.heap.size < w7.heap.size) :
    Blk w7 p TB #[.int .i64 (i + 1), v5] ∧ Blk w7 (w.heap.size + 1) TB #[.int .i64 i, v1] ∧ Blk w7 w.heap.size TB #[.int .i64 0, .slice none 0 0] ∧ Sl w7 KY 3 v5 (i + 1) xs ∧ (∀ b, sblk v7 = some b → w.heap.size + 1 < b) ∧ Below w.heap.size w w7 := by
  have hm : Mod (fun b => sblk tv = some b) (w6.alloc o) w7 := ⟨hm0.os, hm0.tape, hm0.output, hm0.size, hm0.block⟩
  have hd : sblk v7 = sblk tv ∨ sblk v7 = some (w6.alloc o).heap.size ∧ (w6.alloc o).heap.size < w7.heap.size := hd0
  have h1 := hM.ht.lt
  refine ⟨(hM.hu.alloc o).mod hm hM.htp, (hM.ht.alloc o).mod hm (fun e => by have := hM.htf _ e; omega), (hM.ho.alloc o).mod hm (fun e => by have := hM.htf _ e; omega), (hM.hs.alloc o).mod hm (fun b hb e => ?_), fun b hb => ?_, ?_⟩
  · obtain ⟨_, c1, k1⟩ := hM.hs.lt hb
    obtain ⟨_, c2, k2⟩ := hM.hts.lt e
    exact absurd (k1.inj k2).1 (by decide)
  · rcases hd with e | ⟨e, _⟩
    · exact hM.htf b (by rw [← e]; exact hb)
    · rw [e] at hb
      have h2 := Option.some.inj hb
      rw [World.size_alloc] at h2
      omega
  · exact (hM.below.alloc hM.below.size o).trans (hm.below (by rw [World.size_alloc]; omega) fun b hb e => by have := hM.htf _ e; omega)

set_option maxRecDepth 100000 in
set_option maxHeartbeats 3200000 in
theorem minted_any (w : World) (n : Nat) (L : List WantD) (hL : L.length = n) (lv : Value) (hr : Rd w w.heap.size 3 lv n (wantsV L)) (hw : ∀ x ∈ L, i64 x.rights)
    (h : w.cell? ⟨5, 15, none⟩ = some (.int .u8 4)) :
    Calls Tryd.prog 6 #[lv] w fun e w' => ∃ (K : List KeyD) (kv tv : Value), Made L K ∧ K.length = min n 32 ∧ e = .returned (.tuple #[.agg #[.int .i64 (K.length : Int), kv], tv, .bool true]) ∧
      Rd w' w'.heap.size 3 kv K.length (keysV K) ∧ Rd w' w'.heap.size 1 tv K.length (textsV K) ∧ Below w.heap.size w w' := by
  have hlt5 : 5 < w.heap.size := World.block_lt_of_cell? w _ h
  have H := Lib.hid h
  have HL := Lib.hid hr
  have HW := Lib.hid hw
  obtain ⟨A, cap, rfl, hc1, hc2⟩ := hr.form
  clear h hr hw
  go_enter Tryd.func6, Tryd.ntmps6
  go_wp2_with fail
  generalize hw1 : World.alloc (World.alloc w _) _ = w1
  have HB1 : Hid (Below w.heap.size w w1) := by subst hw1; exact ((Below.refl _ _).alloc (Nat.le_refl _) _).alloc (by simp) _
  have HO1 : Hid (Blk w1 w.heap.size TB #[.int .i64 0, .slice none 0 0]) := by subst hw1; exact (Blk.new w _ _).alloc _
  have HT1 : Hid (Blk w1 (w.heap.size + 1) TB #[.int .i64 0, .slice none 0 0]) := by subst hw1; have := Blk.new (w.alloc (.cells #[.int .i64 0, .slice none 0 0] TB)) TB #[.int .i64 0, .slice none 0 0]; rw [World.size_alloc] at this; exact this
  clear hw1
  go_loopw [6, 7, 8, 9, 10] (fun tv iv _ _ _ wx => ∃ (i : Nat) (v : Value) (K : List KeyD), iv = .int .i64 i ∧ i ≤ n ∧ i ≤ 32 ∧ K.length = i ∧ Made L K ∧ Blk wx w.heap.size TB #[.int .i64 0, .slice none 0 0] ∧ Blk wx (w.heap.size + 1) TB #[.int .i64 i, v] ∧
    Sl wx KY 3 v i (keysV K) ∧ (∀ b, sblk v = some b → w.heap.size + 1 < b) ∧ Sl wx 9 1 tv i (textsV K) ∧ (∀ b, sblk tv = some b → w.heap.size + 1 < b) ∧ Below w.heap.size w wx) (fun _ iv _ _ _ _ => n - (intOf iv).toNat)
  case atStart => exact ⟨0, _, [], rfl, Nat.zero_le _, Nat.zero_le _, rfl, fun j k hj => by simp at hj, HO1.out, HT1.out, Sl.nil _ _ _, by simp [sblk], Sl.nil _ _ _, by simp [sblk], HB1.out⟩
  case round =>
    obtain ⟨i, v, K, rfl, hin, hi32, hKi, hM, hO, hT, hs, hf, hts, htf, hb⟩ := hrel
    have HM := Lib.hid hM
    have HO := Lib.hid hO
    have HT := Lib.hid hT
    have HS := Lib.hid hs
    have HF := Lib.hid hf
    have HTS := Lib.hid hts
    have HTF := Lib.hid htf
    have HB := Lib.hid hb
    obtain ⟨A1, cap1, rfl, _, _⟩ := hs.form
    obtain ⟨A2, cap2, rfl, _, _⟩ := hts.form
    clear hM hO hT hs hf hts htf hb
    by_cases hgo : i < n ∧ i < 32
    · obtain ⟨g1, g2⟩ := hgo
      have hlt1 : (i : Int) < (n : Int) := by omega
      have hlt2 : (i : Int) < 32 := by omega
      obtain ⟨wd, hwd⟩ : ∃ wd, L[i]? = some wd := ⟨L[i]'(by omega), List.getElem?_eq_getElem (by omega)⟩
      have HR := Lib.hid (HW.out wd (List.mem_of_getElem? hwd))
      obtain ⟨b, off, cap', hA, _, _, hbB, hc⟩ := (HL.out.below HB.out).at (by omega)
      injection hA with hA _ hcap; subst hA; subst hcap
      have c0 : wr.cell? ⟨b, off + i * 3, none⟩ = some (.string wd.name) := hc (i * 3) _ ((wantsV_at L i wd hwd 0 (by omega)).trans rfl)
      have c1 : wr.cell? ⟨b, off + i * 3 + 1, none⟩ = some (.int .i64 wd.rights) := hc (i * 3 + 1) _ ((wantsV_at L i wd hwd 1 (by omega)).trans rfl)
      have c2 : wr.cell? ⟨b, off + i * 3 + 2, none⟩ = some (.int .i64 wd.draw) := hc (i * 3 + 2) _ ((wantsV_at L i wd hwd 2 (by omega)).trans rfl)
      have d0 : wr.cell? ⟨w.heap.size + 1, 0, none⟩ = some (.int .i64 i) := HT.out.cellS rfl
      have d1 : wr.cell? ⟨w.heap.size + 1, 1, none⟩ = some (.slice A1 i cap1) := HT.out.cellS rfl
      have h3 := Int.emod_nonneg wd.rights (show (3 : Int) ≠ 0 by omega)
      have h4 := Int.emod_lt_of_pos wd.rights (show (0 : Int) < 3 by omega)
      have hw3 : IntKind.i64.wrap (1 + wd.rights % 3) = 1 + wd.rights % 3 := by rw [IntKind.wrap_i64]; omega
      have HC5 : Hid (wr.cell? ⟨5, 15, none⟩ = some (.int .u8 4)) := (HB.out.cell (p := ⟨5, 15, none⟩) hlt5).trans H.out
      have HC6 : Hid ((wr.alloc (.cells #[.int .i64 0, .slice none 0 0] TB)).cell? ⟨5, 15, none⟩ = some (.int .u8 4)) := (((Below.refl _ wr).alloc (Nat.le_refl _) _).cell (p := ⟨5, 15, none⟩) (World.block_lt_of_cell? wr _ HC5.out)).trans HC5.out
      have hbl : b < wr.heap.size := Nat.lt_of_lt_of_le hbB HB.out.size
      clear hc
      go_wp2_with fail
      go_region_held3 (fun w' => w'.cell? ⟨w.heap.size + 1, 0, none⟩ = some (.int .i64 i) ∧ w'.cell? ⟨w.heap.size + 1, 1, none⟩ = some (.slice A1 i cap1) ∧ w'.cell? ⟨b, off + i * 3, none⟩ = some (.string wd.name) ∧ w'.cell? ⟨b, off + i * 3 + 1, none⟩ = some (.int .i64 wd.rights) ∧ w'.cell? ⟨b, off + i * 3 + 2, none⟩ = some (.int .i64 wd.draw))
        (first | exact ⟨d0, d1, c0, c1, c2⟩ | exact ⟨e0, e1, e2, e3, e4⟩ | exact minted_c HT.out.lt hbl e0 e1 e2 e3 e4 | go_keep)
        (first
          | (go_at_call 10; refine (spot_any _ 3 (by omega) (by omega) HR.out.1 HR.out.2 _).mono ?_; rintro e w' ⟨rfl, rfl⟩)
          | (go_at_call 14; refine (mint_any _ i g2 K _ (by exact HS.out.rd) wd.name (1 + wd.rights % 3) wd.draw ⟨by omega, by omega⟩ (by exact HC5.out)).mono ?_; rintro e w5 ⟨hx, v5, hxl, hxc, rfl, hs5, hf5, hb5⟩; obtain ⟨A5, cap5, rfl, _, _⟩ := hs5.form; have hb6 : Below wr.heap.size wr w5 := ⟨hb5.os, hb5.tape, hb5.output, hb5.size, hb5.block⟩; obtain ⟨e0, e1, e2, e3, e4, l1, l2⟩ := minted_a hb6 HT.out.lt hbl d0 d1 c0 c1 c2; have HWAY : Hid (w5 = w5) := rfl)
          | (go_at_call 14; refine (mint_any _ i g2 K _ (by exact (HS.out.alloc _).rd) wd.name (1 + wd.rights % 3) wd.draw ⟨by omega, by omega⟩ (by exact HC6.out)).mono ?_; rintro e w5 ⟨hx, v5, hxl, hxc, rfl, hs5, hf5, hb5⟩; obtain ⟨A5, cap5, rfl, _, _⟩ := hs5.form; obtain ⟨hb6, q0, q1, q2, q3, q4⟩ := minted_b hb5; obtain ⟨e0, e1, e2, e3, e4, l1, l2⟩ := minted_a hb6 HT.out.lt hbl d0 d1 c0 c1 c2; have HWAY : Hid (wr.heap.size < w5.heap.size) := q4))
      all_goals (go_wp2_with fail)
      all_goals (first
        | (have HMM : Hid (MidM w _ w5.heap.size i (.slice A1 i cap1) (.slice A5 (i + 1) cap5) (.slice A2 i cap2) _ _) := midm_a HB.out HO.out HT.out HTS.out HTF.out hb6 hs5 hf5
           clear HWAY hb6 hb5 e0 e1 e2 e3 e4 l1 l2
           generalize World.alloc w5 _ = w6 at HMM ⊢
           generalize w5.heap.size = p at HMM ⊢)
        | (have HMM : Hid (MidM w _ wr.heap.size i (.slice A1 i cap1) (.slice A5 (i + 1) cap5) (.slice A2 i cap2) _ _) := midm_b HB.out HO.out HT.out HTS.out HTF.out hb5 rfl hs5 hf5
           clear HWAY hb6 hb5 e0 e1 e2 e3 e4 l1 l2 q0 q1 q2 q3 q4
           generalize World.setCell (World.setCell w5 _ _) _ _ = w6 at HMM ⊢
           generalize wr.heap.size = p at HMM ⊢))
      have X : True := trivial
      all_goals (
        have k0 : w6.cell? ⟨p, 0, none⟩ = some (.int .i64 (i + 1)) := HMM.out.hu.cellS rfl
        have k1 : w6.cell? ⟨p, 1, none⟩ = some (.slice A5 (i + 1) cap5) := HMM.out.hu.cellS rfl
        have t0 : w6.cell? ⟨w.heap.size + 1, 0, none⟩ = some (.int .i64 i) := HMM.out.ht.cellS rfl
        have t1 : w6.cell? ⟨w.heap.size + 1, 1, none⟩ = some (.slice A1 i cap1) := HMM.out.ht.cellS rfl
        have r0 := HMM.out.ht.frozen 0
        have r1 := HMM.out.ht.frozen 1
        have np := HMM.out.nums
        have nl := HMM.out.hu.lt
        have hwi : IntKind.i64.wrap ((i : Int) + 1) = (i : Int) + 1 := by rw [IntKind.wrap_i64]; omega
        have HR6 : Hid (Rd (w6.alloc (.cells #[.string (str (keyT i hx))] 9)) (w6.heap.size + 1) 1 (.slice (some ⟨w6.heap.size, 0, none⟩) 1 1) 1 [.string (str (keyT i hx))]) := Rd.fresh w6 _ #[.string (str (keyT i hx))] 1 1 rfl (by unfold maxLen; omega)
        have HO6 : Hid (∀ u ∈ [Value.string (str (keyT i hx))], u.oneCell' = true) := by intro u hu; simp at hu; subst hu; rfl
        go_region_held3 (fun w' => w'.cell? ⟨p, 0, none⟩ = some (.int .i64 (i + 1)) ∧ w'.cell? ⟨p, 1, none⟩ = some (.slice A5 (i + 1) cap5)) (first | exact ⟨k0, k1⟩ | exact ⟨y0, y1⟩ | exact ⟨((z1.far (p := ⟨w.heap.size + 1, 0, none⟩) (by show p ≠ w.heap.size + 1; omega) _).far (p := ⟨w.heap.size + 1, 1, none⟩) (by show p ≠ w.heap.size + 1; omega) _).cellS rfl, ((z1.far (p := ⟨w.heap.size + 1, 0, none⟩) (by show p ≠ w.heap.size + 1; omega) _).far (p := ⟨w.heap.size + 1, 1, none⟩) (by show p ≠ w.heap.size + 1; omega) _).cellS rfl⟩ | go_keep)
          ((refine step_append_sl _ rfl (.tmp 56) (.tmp 58) 26 rfl 9 (.string ⟨#[]⟩) 1 16 Tryd.underlying26 Tryd.infoStr2 rfl (by decide) rfl (by exact HMM.out.hts.alloc _) rfl (by exact HR6.out) HO6.out (by omega) (by unfold maxLen; omega) ?_; intro v7 w7 hs7 hm7 hd7; obtain ⟨A7, cap7, rfl, _, _⟩ := hs7.form; obtain ⟨z1, z2, z3, z4, z5, z6⟩ := minted_d HMM.out hm7 hd7; have y0 : w7.cell? ⟨p, 0, none⟩ = some (.int .i64 (i + 1)) := z1.cellS rfl; have y1 : w7.cell? ⟨p, 1, none⟩ = some (.slice A5 (i + 1) cap5) := z1.cellS rfl; have y2 : w7.cell? ⟨w.heap.size + 1, 0, none⟩ = some (.int .i64 i) := z2.cellS rfl; have y3 : w7.cell? ⟨w.heap.size + 1, 1, none⟩ = some (.slice A1 i cap1) := z2.cellS rfl; have y4 := z2.frozen 0; have y5 := z2.frozen 1; clear hm7 hd7)))
      all_goals (
        have hn5 : sblk (.slice A5 (i + 1) cap5) ≠ some (w.heap.size + 1) := fun e => by have := HMM.out.hf _ e; omega
        have hn7 : sblk (.slice A7 (i + 1) cap7) ≠ some (w.heap.size + 1) := fun e => by have := z5 _ e; omega
        have hmade := HM.out.snoc (h := hx) (wd := wd) (by rw [hKi]; exact hwd) ⟨hxl, hxc⟩
        rw [hKi] at hmade
        have Z : Hid (∃ (i' : Nat) (v : Value) (K' : List KeyD), Value.int .i64 ((i : Int) + 1) = .int .i64 i' ∧ i' ≤ n ∧ i' ≤ 32 ∧ K'.length = i' ∧ Made L K' ∧ Blk ((w7.setCell ⟨w.heap.size + 1, 0, none⟩ (.int .i64 (i + 1))).setCell ⟨w.heap.size + 1, 1, none⟩ (.slice A5 (i + 1) cap5)) w.heap.size TB #[.int .i64 0, .slice none 0 0] ∧ Blk ((w7.setCell ⟨w.heap.size + 1, 0, none⟩ (.int .i64 (i + 1))).setCell ⟨w.heap.size + 1, 1, none⟩ (.slice A5 (i + 1) cap5)) (w.heap.size + 1) TB #[.int .i64 i', v] ∧
            Sl ((w7.setCell ⟨w.heap.size + 1, 0, none⟩ (.int .i64 (i + 1))).setCell ⟨w.heap.size + 1, 1, none⟩ (.slice A5 (i + 1) cap5)) KY 3 v i' (keysV K') ∧ (∀ b, sblk v = some b → w.heap.size + 1 < b) ∧ Sl ((w7.setCell ⟨w.heap.size + 1, 0, none⟩ (.int .i64 (i + 1))).setCell ⟨w.heap.size + 1, 1, none⟩ (.slice A5 (i + 1) cap5)) 9 1 (.slice A7 (i + 1) cap7) i' (textsV K') ∧ (∀ b, sblk (.slice A7 (i + 1) cap7) = some b → w.heap.size + 1 < b) ∧ Below w.heap.size w ((w7.setCell ⟨w.heap.size + 1, 0, none⟩ (.int .i64 (i + 1))).setCell ⟨w.heap.size + 1, 1, none⟩ (.slice A5 (i + 1) cap5))) :=
          ⟨i + 1, .slice A5 (i + 1) cap5, K ++ [⟨keyT i hx, wd.name, 1 + wd.rights % 3⟩], by go_num, by omega, by omega, by simp [hKi], hmade,
            (z3.far (p := ⟨w.heap.size + 1, 0, none⟩) (by show w.heap.size ≠ w.heap.size + 1; omega) _).far (p := ⟨w.heap.size + 1, 1, none⟩) (by show w.heap.size ≠ w.heap.size + 1; omega) _, (z2.set 0 _).set 1 _,
            (z4.far (p := ⟨w.heap.size + 1, 0, none⟩) hn5 _).far (p := ⟨w.heap.size + 1, 1, none⟩) hn5 _, HMM.out.hf,
            by rw [show textsV (K ++ [⟨keyT i hx, wd.name, 1 + wd.rights % 3⟩]) = textsV K ++ [.string (str (keyT i hx))] by simp [textsV]]; exact (hs7.far (p := ⟨w.heap.size + 1, 0, none⟩) hn7 _).far (p := ⟨w.heap.size + 1, 1, none⟩) hn7 _, z5,
            (z6.setCell (p := ⟨w.heap.size + 1, 0, none⟩) (by show w.heap.size ≤ w.heap.size + 1; omega) _).setCell (p := ⟨w.heap.size + 1, 1, none⟩) (by show w.heap.size ≤ w.heap.size + 1; omega) _⟩
        clear HMM z1 z2 z3 z4 z5 z6 hs7 hs5 hmade hn5 hn7
        go_wp2_with fail
        go_roundw
        case rel => exact Z.out
        case measure => simp [intOf]; omega)
    · have t0 : wr.cell? ⟨w.heap.size + 1, 0, none⟩ = some (.int .i64 i) := HT.out.cellS rfl
      have t1 : wr.cell? ⟨w.heap.size + 1, 1, none⟩ = some (.slice A1 i cap1) := HT.out.cellS rfl
      have r0 : wr.cell? ⟨w.heap.size, 0, none⟩ = some (.int .i64 0) := HO.out.cellS rfl
      have r1 : wr.cell? ⟨w.heap.size, 1, none⟩ = some (.slice none 0 0) := HO.out.cellS rfl
      have f0 := HO.out.frozen 0
      have f1 := HO.out.frozen 1
      have hmin : i = min n 32 := by omega
      have hn5 : sblk (.slice A1 i cap1) ≠ some w.heap.size := fun e => by have := HF.out _ e; omega
      have hn7 : sblk (.slice A2 i cap2) ≠ some w.heap.size := fun e => by have := HTF.out _ e; omega
      have k0 : Hid (((wr.setCell ⟨w.heap.size, 0, none⟩ (.int .i64 i)).setCell ⟨w.heap.size, 1, none⟩ (.slice A1 i cap1)).cell? ⟨w.heap.size, 0, none⟩ = some (.int .i64 i)) := ((HO.out.set 0 _).set 1 _).cellS rfl
      have k1 : Hid (((wr.setCell ⟨w.heap.size, 0, none⟩ (.int .i64 i)).setCell ⟨w.heap.size, 1, none⟩ (.slice A1 i cap1)).cell? ⟨w.heap.size, 1, none⟩ = some (.slice A1 i cap1)) := ((HO.out.set 0 _).set 1 _).cellS rfl
      have HE : Hid (Sl ((wr.setCell ⟨w.heap.size, 0, none⟩ (.int .i64 i)).setCell ⟨w.heap.size, 1, none⟩ (.slice A1 i cap1)) KY 3 (.slice A1 i cap1) i (keysV K) ∧ Sl ((wr.setCell ⟨w.heap.size, 0, none⟩ (.int .i64 i)).setCell ⟨w.heap.size, 1, none⟩ (.slice A1 i cap1)) 9 1 (.slice A2 i cap2) i (textsV K) ∧ Below w.heap.size w ((wr.setCell ⟨w.heap.size, 0, none⟩ (.int .i64 i)).setCell ⟨w.heap.size, 1, none⟩ (.slice A1 i cap1))) :=
        ⟨(HS.out.far (p := ⟨w.heap.size, 0, none⟩) hn5 _).far (p := ⟨w.heap.size, 1, none⟩) hn5 _, (HTS.out.far (p := ⟨w.heap.size, 0, none⟩) hn7 _).far (p := ⟨w.heap.size, 1, none⟩) hn7 _, (HB.out.setCell (p := ⟨w.heap.size, 0, none⟩) (Nat.le_refl _) _).setCell (p := ⟨w.heap.size, 1, none⟩) (Nat.le_refl _) _⟩
      have hcond : (¬ (i : Int) < (n : Int)) ∨ ((i : Int) < (n : Int) ∧ ¬ (i : Int) < 32) := by omega
      have HMIN := Lib.hid hmin
      clear hn5 hn7 hgo hmin
      rcases hcond with g1 | ⟨g1, g2⟩
      all_goals (
        go_wp2_with fail
        have k0 := k0.out
        have k1 := k1.out
        refine bodyPost_ret (v := .tuple #[.agg #[.int .i64 i, .slice A1 i cap1], .slice A2 i cap2, .bool true]) (by simp [results, Tryd.results6, go_sem, k0, k1]) rfl ?_
        refine ⟨K, HM.out, by rw [hKi]; exact HMIN.out, .slice A1 i cap1, .slice A2 i cap2, by rw [hKi], ?_, ?_, HE.out.2.2⟩
        · rw [hKi]; exact HE.out.1.rd
        · rw [hKi]; exact HE.out.2.1.rd)
end Go.Proofs.YtfoipadgicjcaaaDoor
