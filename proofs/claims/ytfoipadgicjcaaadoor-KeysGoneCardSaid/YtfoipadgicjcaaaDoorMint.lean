/- keys.Mint: the walk. -/
import Derived.Test.YtfoipadgicjcaaaDoorMix
import Derived.Test.YtfoipadgicjcaaaDoorShelfItoa
import Derived.Test.YtfoipadgicjcaaaDoorW0
import Derived.Deep.RegionHeld3
import Derived.Laws.Concat
namespace Go.Proofs.YtfoipadgicjcaaaDoor
open Go.RowKit

/-- A key: text, name, rights. -/
structure KeyD where
  text : List UInt8
  name : ByteArray
  rights : Int
def keyV (k : KeyD) : List Value := [.string (str k.text), .string k.name, .int .i64 k.rights]
def keysV (l : List KeyD) : List Value := l.flatMap keyV
theorem keysV_len (l : List KeyD) : (keysV l).length = l.length * 3 := by
  induction l with
  | nil => rfl
  | cons a l ih => rw [keysV, List.flatMap_cons, List.length_append, ← keysV, ih]; simp [keyV]; omega
theorem keysV_one {l : List KeyD} : ∀ u ∈ keysV l, u.oneCell' = true := fun u hu => by
  obtain ⟨k, _, hk⟩ := List.mem_flatMap.1 hu
  simp [keyV] at hk
  rcases hk with rfl | rfl | rfl <;> rfl
theorem Tryd.infoKey : (Tryd.prog.info? 48).map (fun i => (i.zero, i.size, i.bytes)) = some (some (.agg #[.string ⟨#[]⟩, .string ⟨#[]⟩, .int .i64 0]), 3, 40) := by kernel_rfl
theorem dec_small : ∀ i : Fin 32, (Lib.decDigits i.val).length ≤ 2 ∧ 1 ≤ (Lib.decDigits i.val).length ∧ ∀ c ∈ Lib.decDigits i.val, 48 ≤ c.toNat ∧ c.toNat ≤ 57 := by
  unfold Lib.decDigits; decide +kernel

/-- A key's text. -/
def keyT (i : Nat) (h : List UInt8) : List UInt8 := 33 :: (Lib.decDigits i ++ 107 :: h)

def MintPost (w : World) (i : Nat) (K : List KeyD) (name : ByteArray) (r : Int) (e : Ending) (w' : World) : Prop :=
  ∃ (h : List UInt8) (v' : Value), (1 ≤ h.length ∧ h.length ≤ 16) ∧ (∀ c ∈ h, hexC c) ∧
    e = .returned (.tuple #[.agg #[.int .i64 (i + 1), v'], .string (str (keyT i h)), .int .i64 0]) ∧
    Sl w' 48 3 v' (i + 1) (keysV (K ++ [⟨keyT i h, name, r⟩])) ∧ (∀ b, sblk v' = some b → w.heap.size ≤ b) ∧ Below w.heap.size w w'

theorem mk_keys (n : Nat) (hn : n ≤ 100) (W : World) : (Instr.makeSlice 23 (.int .i64 0) (.int .i64 ((n : Int) + 1))).run Tryd.prog W =
    .ok (.slice (some ⟨W.heap.size, 0, none⟩) 0 (n + 1)) (W.alloc (.cells (madeCells #[.string ⟨#[]⟩, .string ⟨#[]⟩, .int .i64 0] ((n + 1) * 3)) 48)) := by
  obtain ⟨i, hi, h⟩ := Option.map_eq_some_iff.1 Tryd.infoKey
  simp only [Prod.mk.injEq] at h
  obtain ⟨hz, hs, hb⟩ := h
  have hr := run_make (P := Tryd.prog) W 23 48 i _ Tryd.underlying23 hi hz .i64 .i64 0 ((n : Int) + 1) (by omega) (by omega) (by rw [hb]; omega) (by omega)
  have e : ((n : Int) + 1).toNat = n + 1 := by omega
  rw [e, hs] at hr
  exact hr

theorem mint_a {w3 w5 : World} {v5 : Value} {bK : Nat} (hm : Mod (fun b => some bK = some b) w3 w5) (hd : sblk v5 = some bK ∨ sblk v5 = some w3.heap.size ∧ w3.heap.size < w5.heap.size) :
    Mod (fun b => b = bK) w3 w5 ∧ ∀ b, sblk v5 = some b → b = bK ∨ w3.heap.size ≤ b := by
  refine ⟨hm.mono fun b _ h => (Option.some.inj h).symm, fun b hb => ?_⟩
  rcases hd with e | ⟨e, _⟩
  · rw [e] at hb; exact .inl (Option.some.inj hb).symm
  · rw [e] at hb; have := Option.some.inj hb; omega
theorem mint_b {w3 w5 w6 : World} {v5 v6 : Value} {bK : Nat} {o : Obj} (hm : Mod (fun b => b = bK) w3 w5) (hd : ∀ b, sblk v5 = some b → b = bK ∨ w3.heap.size ≤ b)
    (hm' : Mod (fun b => sblk v5 = some b) (w5.alloc o) w6) (hd' : sblk v6 = sblk v5 ∨ sblk v6 = some (w5.alloc o).heap.size ∧ (w5.alloc o).heap.size < w6.heap.size) :
    Mod (fun b => b = bK) w3 w6 ∧ ∀ b, sblk v6 = some b → b = bK ∨ w3.heap.size ≤ b := by
  refine ⟨(hm.alloc o).trans hm' fun b hb h => ?_, fun b hb => ?_⟩
  · rcases hd b h with h | h
    · exact h
    · omega
  · rcases hd' with e | ⟨e, _⟩
    · exact hd b (by rw [← e]; exact hb)
    · rw [e] at hb
      have h1 := Option.some.inj hb
      have h2 := hm.size
      rw [World.size_alloc] at h1
      omega
abbrev TB := 25
abbrev KY := 48
abbrev zeroK (i : Nat) : Array Value := madeCells #[.string ⟨#[]⟩, .string ⟨#[]⟩, .int .i64 0] ((i + 1) * 3)
/-- Between the two halves of Mint. -/
structure Mid (w w3 : World) (bK bT i : Nat) (kv : Value) : Prop where
  below : Below w.heap.size w w3
  ht : Blk w3 w.heap.size TB #[.int .i64 i, kv]
  ho : Blk w3 (w.heap.size + 1) TB #[.int .i64 0, .slice none 0 0]
  hr : Blk w3 bT TB #[.int .i64 (i + 1), .slice (some ⟨bK, 0, none⟩) 0 (i + 1)]
  hl : Sl w3 KY 3 (.slice (some ⟨bK, 0, none⟩) 0 (i + 1)) 0 []
  nums : bK ≠ bT ∧ w.heap.size + 1 < bK ∧ w.heap.size + 1 < bT ∧ bK < w3.heap.size ∧ bT < w3.heap.size
theorem sl_zero {w : World} {b i : Nat} (hi : i < 32) (h : Blk w b KY (zeroK i)) : Sl w KY 3 (.slice (some ⟨b, 0, none⟩) 0 (i + 1)) 0 [] := by
  refine ⟨by simp, _, _, rfl, by omega, by unfold maxLen; omega, (fun h => nomatch h), fun a ha => ?_⟩
  injection ha with ha; subst ha
  exact ⟨zeroK i, rfl, h, by rw [size_madeCells]; show 0 + _ ≤ _; omega, by simp⟩
theorem mid_a {w w2 : World} {i : Nat} {kv : Value} (hi : i < 32) (HB2 : Below w.heap.size w w2) (HT2 : Blk w2 w.heap.size TB #[.int .i64 i, kv]) (HO2 : Blk w2 (w.heap.size + 1) TB #[.int .i64 0, .slice none 0 0]) :
    Mid w ((w2.alloc (.cells (zeroK i) KY)).alloc (.cells #[.int .i64 (i + 1), .slice (some ⟨w2.heap.size, 0, none⟩) 0 (i + 1)] TB)).drew w2.heap.size (w2.heap.size + 1) i kv := by
  have hlt := HO2.lt
  refine ⟨((HB2.alloc (by omega) _).alloc (by simp; omega) _).drew, ((HT2.alloc _).alloc _).drew, ((HO2.alloc _).alloc _).drew, Blk.drew ?_, Sl.drew (sl_zero hi ((Blk.new w2 _ _).alloc _)), by omega, hlt, by omega, ?_, ?_⟩
  · have := Blk.new (w2.alloc (.cells (zeroK i) KY)) TB #[.int .i64 (i + 1), .slice (some ⟨w2.heap.size, 0, none⟩) 0 (i + 1)]
    rw [World.size_alloc] at this; exact this
  · show _ < ((w2.alloc _).alloc _).heap.size; rw [World.size_alloc, World.size_alloc]; omega
  · show _ < ((w2.alloc _).alloc _).heap.size; rw [World.size_alloc, World.size_alloc]; omega
theorem mid_b {w w2 : World} {i : Nat} {kv : Value} (hi : i < 32) (HB2 : Below w.heap.size w w2) (HT2 : Blk w2 w.heap.size TB #[.int .i64 i, kv]) (HO2 : Blk w2 (w.heap.size + 1) TB #[.int .i64 0, .slice none 0 0]) :
    Mid w ((w2.alloc (.cells #[.int .i64 (i + 1), .slice (some ⟨w2.heap.size + 1, 0, none⟩) 0 (i + 1)] TB)).alloc (.cells (zeroK i) KY)).drew (w2.heap.size + 1) w2.heap.size i kv := by
  have hlt := HO2.lt
  refine ⟨((HB2.alloc (by omega) _).alloc (by simp; omega) _).drew, ((HT2.alloc _).alloc _).drew, ((HO2.alloc _).alloc _).drew, ((Blk.new w2 _ _).alloc _).drew, Sl.drew (sl_zero hi ?_), by omega, by omega, hlt, ?_, ?_⟩
  · have := Blk.new (w2.alloc (.cells #[.int .i64 (i + 1), .slice (some ⟨w2.heap.size + 1, 0, none⟩) 0 (i + 1)] TB)) KY (zeroK i)
    rw [World.size_alloc] at this; exact this
  · show _ < ((w2.alloc _).alloc _).heap.size; rw [World.size_alloc, World.size_alloc]; omega
  · show _ < ((w2.alloc _).alloc _).heap.size; rw [World.size_alloc, World.size_alloc]; omega

theorem mint_end {w w3 w6 : World} {bK bT i : Nat} {kv v6 : Value} {xs : List Value} {u1 u2 u3 : Value} (hM : Mid w w3 bK bT i kv) (hm : Mod (fun b => b = bK) w3 w6) (hd : ∀ b, sblk v6 = some b → b = bK ∨ w3.heap.size ≤ b)
    (hs : Sl w6 KY 3 v6 (i + 1) xs) :
    Sl (((w6.setCell ⟨bT, 1, none⟩ u1).setCell ⟨w.heap.size + 1, 0, none⟩ u2).setCell ⟨w.heap.size + 1, 1, none⟩ u3) KY 3 v6 (i + 1) xs ∧ (∀ b, sblk v6 = some b → w.heap.size ≤ b) ∧
      Below w.heap.size w (((w6.setCell ⟨bT, 1, none⟩ u1).setCell ⟨w.heap.size + 1, 0, none⟩ u2).setCell ⟨w.heap.size + 1, 1, none⟩ u3) := by
  obtain ⟨n1, n2, n3, n4, n5⟩ := hM.nums
  have hT : sblk v6 ≠ some bT := fun e => by rcases hd _ e with h | h <;> omega
  have hO : sblk v6 ≠ some (w.heap.size + 1) := fun e => by rcases hd _ e with h | h <;> omega
  refine ⟨(((hs.far (p := ⟨bT, 1, none⟩) hT u1).far (p := ⟨w.heap.size + 1, 0, none⟩) hO u2).far (p := ⟨w.heap.size + 1, 1, none⟩) hO u3), fun b hb => by rcases hd _ hb with h | h <;> omega, ?_⟩
  have hb : Below w.heap.size w w6 := hM.below.trans (hm.below hM.below.size fun b hb e => by have e : b = bK := e; omega)
  exact ((hb.setCell (p := ⟨bT, 1, none⟩) (by show w.heap.size ≤ bT; omega) _).setCell (p := ⟨w.heap.size + 1, 0, none⟩) (by show w.heap.size ≤ w.heap.size + 1; omega) _).setCell (p := ⟨w.heap.size + 1, 1, none⟩) (by show w.heap.size ≤ w.heap.size + 1; omega) _

set_option maxRecDepth 100000 in
set_option maxHeartbeats 3200000 in
theorem mint_any (w : World) (i : Nat) (hi : i < 32) (K : List KeyD) (kv : Value) (hk : Rd w w.heap.size 3 kv i (keysV K)) (name : ByteArray) (r d : Int) (hr : 1 ≤ r ∧ r ≤ 3)
    (h : w.cell? ⟨5, 15, none⟩ = some (.int .u8 4)) :
    Calls Tryd.prog 14 #[.agg #[.int .i64 i, kv], .string name, .int .i64 r, .int .i64 d] w (MintPost w i K name r) := by
  have H := Lib.hid h
  have HK := Lib.hid hk
  have hlt5 : 5 < w.heap.size := World.block_lt_of_cell? w _ h
  have HP : Hid (∀ e w', MintPost w i K name r e w' → MintPost w i K name r e w') := fun _ _ h => h
  obtain ⟨A, cap, rfl, hc1, hc2⟩ := hk.form
  clear h hk
  obtain ⟨hr1, hr2⟩ := hr
  have HMK := mk_keys i (by omega)
  have HD := Lib.hid (dec_small ⟨i, hi⟩)
  have HIT : Hid (∀ w : World, Calls Tryd.prog 20 #[.int .i64 i] w fun e w' => e = .returned (.string (str (Lib.decDigits i))) ∧ w' = w) := Tryd.strconv_Itoa_small i (by omega)
  have HKT : Hid (∀ h, keyT i h = 33 :: Lib.decDigits i ++ [107] ++ h) := fun h => by simp [keyT]
  simp only at HD
  generalize Lib.decDigits i = D at HD HIT HKT
  have e1 : ∀ w, (Op.stringOp .add ⟨#[33]⟩ (str D)).run Tryd.prog w = .ok (.string (str (33 :: D))) w := fun w => by
    rw [run_string_add_sum w _ _ (by have := HD.out.1; rw [str_size]; have e : (⟨#[33]⟩ : ByteArray).size = 1 := rfl; omega)]
    exact congrArg (fun x => Result.ok (Value.string x) w) (str_append [33] D)
  have e2 : ∀ w, (Op.stringOp .add (str (33 :: D)) ⟨#[107]⟩).run Tryd.prog w = .ok (.string (str (33 :: D ++ [107]))) w := fun w => by
    rw [run_string_add_sum w _ _ (by have := HD.out.1; rw [str_size, List.length_cons]; have e : (⟨#[107]⟩ : ByteArray).size = 1 := rfl; omega)]
    exact congrArg (fun x => Result.ok (Value.string x) w) (str_append (33 :: D) [107])
  have E3 : Hid (∀ (s : List UInt8), s.length ≤ 16 → ∀ w, (Op.stringOp .add (str (33 :: D ++ [107])) (str s)).run Tryd.prog w = .ok (.string (str (keyT i s))) w) := fun s hs w => by
    rw [run_string_add_sum w _ _ (by have := HD.out.1; rw [str_size, str_size, List.length_append, List.length_cons]; simp; omega), str_append, HKT.out]
  generalize str (33 :: D ++ [107]) = s2 at e2 E3
  generalize str (33 :: D) = s1 at e1 e2
  generalize str D = s0 at e1 HIT
  clear HKT HD
  go_enter Tryd.func14, Tryd.ntmps14
  go_wp2_with fail
  generalize hw1 : World.alloc (World.alloc w _) _ = w1
  have HB1 : Hid (Below w.heap.size w w1) := by subst hw1; exact ((Below.refl _ _).alloc (Nat.le_refl _) _).alloc (by simp) _
  have HT1 : Hid (Blk w1 w.heap.size 25 #[.int .i64 i, .slice A i cap]) := by subst hw1; exact (Blk.new w _ _).alloc _
  have HO1 : Hid (Blk w1 (w.heap.size + 1) 25 #[.int .i64 0, .slice none 0 0]) := by subst hw1; have := Blk.new (w.alloc (.cells #[.int .i64 i, .slice A i cap] 25)) 25 #[.int .i64 0, .slice none 0 0]; rw [World.size_alloc] at this; exact this
  have HC1 : Hid (w1.cell? ⟨5, 15, none⟩ = some (.int .u8 4)) := (HB1.out.cell (p := ⟨5, 15, none⟩) hlt5).trans H.out
  have c0 : w1.cell? ⟨w.heap.size, 0, none⟩ = some (.int .i64 i) := HT1.out.cellS rfl
  have c1 : w1.cell? ⟨w.heap.size, 1, none⟩ = some (.slice A i cap) := HT1.out.cellS rfl
  clear hw1
  go_region_held3 (fun w' => w'.cell? ⟨w.heap.size, 0, none⟩ = some (.int .i64 i)) (first | exact c0 | exact (hb2.cell (p := ⟨w.heap.size, 0, none⟩) HT1.out.lt).trans c0)
    (first
      | (go_at_call 20; refine (HIT.out _).mono ?_; rintro e w' ⟨rfl, rfl⟩)
      | (go_at_call 22; refine (mix_any _ _ _).mono ?_; rintro e w' ⟨u, rfl, hu1, hu2, rfl⟩)
      | (go_at_call 21; refine (fmt _ u hu1 hu2 (by exact HC1.out)).mono ?_; rintro e w2 ⟨hx, rfl, hxl, hxc, hb2⟩; have e3 := E3.out hx hxl.2))
  have hb2' : Below w1.heap.size w1 w2 := ⟨hb2.os, hb2.tape, hb2.output, hb2.size, hb2.block⟩
  have HB2 : Hid (Below w.heap.size w w2) := HB1.out.trans (hb2'.mono HB1.out.size)
  have HT2 : Hid (Blk w2 w.heap.size 25 #[.int .i64 i, .slice A i cap]) := (hb2'.block _ HT1.out.lt).trans HT1.out
  have HO2 : Hid (Blk w2 (w.heap.size + 1) 25 #[.int .i64 0, .slice none 0 0]) := (hb2'.block _ HO1.out.lt).trans HO1.out
  have HXX : Hid ((1 ≤ hx.length ∧ hx.length ≤ 16) ∧ ∀ c ∈ hx, hexC c) := ⟨hxl, hxc⟩
  generalize hTT : keyT i hx = T at *
  have HTT := Lib.hid hTT
  clear hTT
  have hlt2 : w.heap.size + 1 < w2.heap.size := HO2.out.lt
  clear hb2 hb2' HB1 HT1 HO1 HC1 c0 c1 e1 e2 e3 E3 HIT H hxl hxc
  have c0 : w2.cell? ⟨w.heap.size, 0, none⟩ = some (.int .i64 i) := HT2.out.cellS rfl
  have c1 : w2.cell? ⟨w.heap.size, 1, none⟩ = some (.slice A i cap) := HT2.out.cellS rfl
  have HRD : Hid (∀ w5 : World, Rd (w5.alloc (.cells #[.string (str T), .string name, .int .i64 r] 48)) (w5.heap.size + 1) 3 (.slice (some ⟨w5.heap.size, 0, none⟩) 1 1) 1 [.string (str T), .string name, .int .i64 r]) := fun w5 => Rd.fresh w5 _ #[.string (str T), .string name, .int .i64 r] 3 1 rfl (by unfold maxLen; omega)
  have HON : Hid (∀ u ∈ [Value.string (str T), .string name, .int .i64 r], u.oneCell' = true) := by intro u hu; simp at hu; rcases hu with rfl | rfl | rfl <;> rfl
  have hwi : IntKind.i64.wrap ((i : Int) + 1) = (i : Int) + 1 := by rw [IntKind.wrap_i64]; omega
  go_wp2_with fail
  go_region_held3 (fun w' => w'.cell? ⟨w.heap.size, 0, none⟩ = some (.int .i64 i) ∧ w'.cell? ⟨w.heap.size, 1, none⟩ = some (.slice A i cap)) (first | exact ⟨c0, c1⟩ | go_keep) (fail)
  all_goals (generalize hw3 : World.drew _ = w3)
  all_goals (first
    | (have HM : Hid (Mid w w3 w2.heap.size (w2.heap.size + 1) i (.slice A i cap)) := by subst hw3; exact mid_a hi HB2.out HT2.out HO2.out
       clear hw3 hlt2 c0 c1 HB2 HT2 HO2 HMK hwi
       generalize w2.heap.size + 1 = bT at HM ⊢
       generalize w2.heap.size = bK at HM ⊢)
    | (have HM : Hid (Mid w w3 (w2.heap.size + 1) w2.heap.size i (.slice A i cap)) := by subst hw3; exact mid_b hi HB2.out HT2.out HO2.out
       clear hw3 hlt2 c0 c1 HB2 HT2 HO2 HMK hwi
       generalize w2.heap.size + 1 = bK at HM ⊢
       generalize w2.heap.size = bT at HM ⊢))
  all_goals (
    have HL3 := Lib.hid HM.out.hl
    have HK3 : Hid (Rd w3 w.heap.size 3 (.slice A i cap) i (keysV K)) := HK.out.below HM.out.below
    have c3 : w3.cell? ⟨bT, 1, none⟩ = some (.slice (some ⟨bK, 0, none⟩) 0 (i + 1)) := HM.out.hr.cellS rfl
    have d3 : w3.cell? ⟨w.heap.size, 1, none⟩ = some (.slice A i cap) := HM.out.ht.cellS rfl
    go_wp2_with (first
      | (at_builtin; refine wpList_append_sl _ rfl (.tmp 58) (.tmp 60) 23 rfl 48 (.agg #[.string ⟨#[]⟩, .string ⟨#[]⟩, .int .i64 0]) 3 40 Tryd.underlying23 Tryd.infoKey rfl (by decide) rfl (by exact HL3.out) rfl (by exact HK3.out) keysV_one (by omega) (by unfold maxLen; omega) ?_; intro v5 w5 hs5 hm5 hd5; rw [Nat.zero_add, List.nil_append] at hs5; obtain ⟨A5, cap5, rfl, _, _⟩ := hs5.form; obtain ⟨hm5', hd5'⟩ := mint_a hm5 hd5; clear hm5 hd5)
      | (at_builtin; refine wpList_append_sl _ rfl (.tmp 61) (.tmp 66) 23 rfl 48 (.agg #[.string ⟨#[]⟩, .string ⟨#[]⟩, .int .i64 0]) 3 40 Tryd.underlying23 Tryd.infoKey rfl (by decide) rfl (by exact hs5.alloc _) rfl (by exact HRD.out w5) HON.out (by omega) (by unfold maxLen; omega) ?_; intro v6 w6 hs6 hm6 hd6; obtain ⟨A6, cap6, rfl, _, _⟩ := hs6.form; obtain ⟨hm6', hd6'⟩ := mint_b hm5' hd5' hm6 hd6; clear hm6 hd6
         have HR6 := Lib.hid (HM.out.hr.mod hm6' (show ¬ bT = bK from fun e => HM.out.nums.1 e.symm))
         have HO6 := Lib.hid (HM.out.ho.mod hm6' (show ¬ w.heap.size + 1 = bK by have := HM.out.nums; omega))
         have c60 : w6.cell? ⟨bT, 0, none⟩ = some (.int .i64 (i + 1)) := HR6.out.cellS rfl
         have c61 : w6.cell? ⟨bT, 1, none⟩ = some (.slice (some ⟨bK, 0, none⟩) 0 (i + 1)) := HR6.out.cellS rfl
         have f6 := HR6.out.frozen 1
         have hbt := HM.out.nums.2.2.1
         have c62 : w6.cell? ⟨w.heap.size + 1, 0, none⟩ = some (.int .i64 0) := HO6.out.cellS rfl
         have c63 : w6.cell? ⟨w.heap.size + 1, 1, none⟩ = some (.slice none 0 0) := HO6.out.cellS rfl
         have f60 := HO6.out.frozen 0
         have f61 := HO6.out.frozen 1)))
  all_goals (
    have HE : Hid _ := mint_end (u1 := .slice A6 (i + 1) cap6) (u2 := .int .i64 (i + 1)) (u3 := .slice A6 (i + 1) cap6) HM.out hm6' hd6' hs6
    have hTT := HTT.out
    have k0 : ((((w6.setCell ⟨bT, 1, none⟩ (.slice A6 (i + 1) cap6)).setCell ⟨w.heap.size + 1, 0, none⟩ (.int .i64 (i + 1))).setCell ⟨w.heap.size + 1, 1, none⟩ (.slice A6 (i + 1) cap6))).cell? ⟨w.heap.size + 1, 0, none⟩ = some (.int .i64 (i + 1)) := (((HO6.out.far (p := ⟨bT, 1, none⟩) (by show w.heap.size + 1 ≠ bT; omega) _).set 0 _).set 1 _).cellS rfl
    have k1 : ((((w6.setCell ⟨bT, 1, none⟩ (.slice A6 (i + 1) cap6)).setCell ⟨w.heap.size + 1, 0, none⟩ (.int .i64 (i + 1))).setCell ⟨w.heap.size + 1, 1, none⟩ (.slice A6 (i + 1) cap6))).cell? ⟨w.heap.size + 1, 1, none⟩ = some (.slice A6 (i + 1) cap6) := (((HO6.out.far (p := ⟨bT, 1, none⟩) (by show w.heap.size + 1 ≠ bT; omega) _).set 0 _).set 1 _).cellS rfl
    generalize World.setCell _ _ _ = W at HE k0 k1 ⊢
    refine bodyPost_ret (v := .tuple #[.agg #[.int .i64 (i + 1), .slice A6 (i + 1) cap6], .string (str T), .int .i64 0]) (by simp [results, Tryd.results14, go_sem, k0, k1]) rfl ?_
    subst hTT
    refine ⟨hx, .slice A6 (i + 1) cap6, HXX.out.1, HXX.out.2, rfl, ?_, HE.out.2.1, HE.out.2.2⟩
    have := HE.out.1
    rw [keysV, List.flatMap_append]
    exact this)
end Go.Proofs.YtfoipadgicjcaaaDoor
