/- speech.Write: the walk. -/
import Derived.Test.YtkandepkojfblaaDoorSpGround
import Derived.Laws.Concat
import Derived.Deep.CutBlock
import Derived.Deep.DeepCutAuto
namespace Go.Proofs.YtkandepkojfblaaDoor
open Go.RowKit

/-- A request whose numbers are ints, and whose texts are not beyond all bounds. -/
structure SFit (q : SReq) : Prop where
  verb : -9223372036854775808 ≤ q.verb ∧ q.verb ≤ 9223372036854775807
  b : -9223372036854775808 ≤ q.b ∧ q.b ≤ 9223372036854775807
  l : -9223372036854775808 ≤ q.l ∧ q.l ≤ 9223372036854775807
  n : -9223372036854775808 ≤ q.n ∧ q.n ≤ 9223372036854775807
  cells : ∀ c ∈ q.cells, (-9223372036854775808 ≤ c.1 ∧ c.1 ≤ 9223372036854775807) ∧ (-9223372036854775808 ≤ c.2 ∧ c.2 ≤ 9223372036854775807)
  name : q.name.length ≤ 281474976710656
  other : q.other.length ≤ 281474976710656
  len : q.cells.length ≤ 281474976710656
def WritePost (w : World) (q : SReq) (e : Ending) (w' : World) : Prop :=
  ∃ (r : List UInt8) (f : Int), e = .returned (.tuple #[.string (str r), .int .i64 f]) ∧ Below w.heap.size w w' ∧
    ((f = 0 ∧ (1 ≤ q.verb ∧ q.verb ≤ 10) ∧ readS readR r = (q, 0) ∧ r = writeL txR q) ∨ (f ≠ 0 ∧ r = [] ∧ ¬ ((1 ≤ q.verb ∧ q.verb ≤ 10) ∧ readS readR (writeL txR q) = (q, 0))))

theorem verbL_len (k : Int) : (verbL k).length ≤ 5 := by
  unfold verbL
  repeat' split
  all_goals simp
theorem cells_len (l : List (Int × Int)) (h : ∀ c ∈ l, (-9223372036854775808 ≤ c.1 ∧ c.1 ≤ 9223372036854775807) ∧ (-9223372036854775808 ≤ c.2 ∧ c.2 ≤ 9223372036854775807)) (k : Nat) : ((l.take k).flatMap fun c => 32 :: cellL c).length ≤ 42 * l.length := by
  induction l generalizing k with
  | nil => simp
  | cons c r ih =>
    cases k with
    | zero => simp
    | succ k =>
      have h1 := ih (fun c hc => h c (List.mem_cons_of_mem _ hc)) k
      obtain ⟨⟨a1, a2⟩, a3, a4⟩ := h c List.mem_cons_self
      have h2 := itoa_len a1 a2
      have h3 := itoa_len a3 a4
      simp only [List.take_succ_cons, List.flatMap_cons, List.length_append, List.length_cons, cellL] at h1 ⊢
      omega
/-- The verb, and the name. -/
def headL (q : SReq) : List UInt8 := verbL q.verb ++ (if q.verb = 10 then [] else 32 :: q.name)
def restL (q : SReq) : List UInt8 :=
  if q.verb = 1 then 32 :: txR q.b q.l
  else if q.verb = 2 then q.cells.flatMap fun c => 32 :: cellL c
  else if q.verb = 4 ∨ q.verb = 9 then 32 :: Lib.itoa q.n
  else if q.verb = 8 then 32 :: q.other else []
theorem write_parts (q : SReq) : writeL txR q = headL q ++ restL q := by
  unfold writeL tailW headL restL
  rw [List.append_assoc]
theorem head_len2 (q : SReq) : (headL q).length ≤ 6 + q.name.length := by
  unfold headL
  have := verbL_len q.verb
  split
  · rw [List.append_nil]; omega
  · rw [List.length_append, List.length_cons]; omega
theorem run_cat (a b : List UInt8) (h : a.length + b.length ≤ 9223372036854775807) (w : World) : (Op.stringOp .add (str a) (str b)).run Tryd.prog w = .ok (.string (str (a ++ b))) w := by
  rw [run_string_add_sum w _ _ (by rw [str_size, str_size]; omega), str_append]

set_option maxRecDepth 100000 in
set_option maxHeartbeats 6400000 in
theorem writeS_any (w : World) (hg : SpG w) (q : SReq) (hq : SFit q) (B : Nat) (v : Value) (hv : Rd w B 2 v q.cells.length (flat q.cells)) :
    Calls Tryd.prog 11 #[reqV q v] w (WritePost w q) := by
  obtain ⟨A, cap, rfl, hc1, hc2⟩ := hv.form
  have HV := Lib.hid hv
  have HQ := Lib.hid hq
  have HG := Lib.hid hg
  unfold maxLen at hc2
  have hvb := hq.verb
  clear hv hq hg
  unfold reqV
  by_cases h1 : q.verb < 1
  · have HF : Hid (¬ (1 ≤ q.verb ∧ q.verb ≤ 10)) := fun h => by omega
    go_enter Tryd.func11, Tryd.ntmps11
    go_wp2_with fail
    go_ret2
    exact ⟨[], 4, rfl, by first | exact Below.refl _ _ | exact (Below.refl _ _).alloc (Nat.le_refl _) _, .inr ⟨by decide, rfl, fun h => HF.out h.1⟩⟩
  by_cases h2 : 11 ≤ q.verb
  · have HF : Hid (¬ (1 ≤ q.verb ∧ q.verb ≤ 10)) := fun h => by omega
    go_enter Tryd.func11, Tryd.ntmps11
    go_wp2_with fail
    go_ret2
    exact ⟨[], 4, rfl, by first | exact Below.refl _ _ | exact (Below.refl _ _).alloc (Nat.le_refl _) _, .inr ⟨by decide, rfl, fun h => HF.out h.1⟩⟩
  obtain ⟨k, hk⟩ : ∃ k : Nat, q.verb = (k : Int) := ⟨q.verb.toNat, by omega⟩
  have hk1 : 1 ≤ k := by omega
  have hk2 : k < 11 := by omega
  have HX1 : Hid (Blk (w.alloc (.cells #[.int .i64 (k : Int), .string (str q.name), .string (str q.other), .int .i64 q.b, .int .i64 q.l, .int .i64 q.n, .slice A q.cells.length cap] 34)) w.heap.size 34 #[.int .i64 (k : Int), .string (str q.name), .string (str q.other), .int .i64 q.b, .int .i64 q.l, .int .i64 q.n, .slice A q.cells.length cap]) := Blk.new w _ _
  have cv : (w.alloc (.cells #[.int .i64 (k : Int), .string (str q.name), .string (str q.other), .int .i64 q.b, .int .i64 q.l, .int .i64 q.n, .slice A q.cells.length cap] 34)).cell? ⟨0, k, none⟩ = some (.string (str (verbL (k : Int)))) := (World.cell?_alloc_lt w _ (a := ⟨0, k, none⟩) (World.block_lt_of_cell? w _ (HG.out.verbs k hk2))).trans (HG.out.verbs k hk2)
  have HK := Lib.hid hk
  rw [hk] at h1 h2 ⊢
  go_enter Tryd.func11, Tryd.ntmps11
  have c0 := HX1.out.cellS (i := 0) rfl
  go_upto_if 25 with fail
  clear cv c0
  generalize hkv : (k : Int) = kv at *
  have hkq : q.verb = kv := HK.out
  have HKR : Hid (1 ≤ kv ∧ kv ≤ 10) := by show _ ∧ _; omega
  clear hkv hk1 hk2 h1 h2 hk HK hvb
  go_cut [4] (fun s4 wx => s4 = .string (str (headL q)) ∧ wx = w.alloc (.cells #[.int .i64 kv, .string (str q.name), .string (str q.other), .int .i64 q.b, .int .i64 q.l, .int .i64 q.n, .slice A q.cells.length cap] 34))
  case first =>
    have c0 := HX1.out.cellS (i := 0) rfl
    have c1 := HX1.out.cellS (i := 1) rfl
    have HN := Lib.hid HQ.out.name
    have HVL := Lib.hid (verbL_len kv)
    by_cases h10 : kv = 10
    · subst h10
      have HE : Hid (verbL 10 = headL q) := by show _ = _; unfold headL; rw [hkq, if_pos rfl, List.append_nil]
      generalize verbL 10 = vl at *
      clear hkq
      go_wp2_with fail
      go_meet
      exact ⟨by rw [HE.out], rfl⟩
    · have hb : (kv != 10) = true := by simpa using h10
      have HE : Hid (verbL kv ++ 32 :: q.name = headL q) := by show _ = _; unfold headL; rw [hkq, if_neg h10]
      have e1 := run_cat [32] q.name (by have := HN.out; rw [List.length_singleton]; omega)
      have e2 := run_cat (verbL kv) ([32] ++ q.name) (by have := HN.out; have := HVL.out; rw [List.length_append, List.length_singleton]; omega)
      rw [show str [32] = ⟨#[32]⟩ from rfl] at e1
      rw [show verbL kv ++ ([32] ++ q.name) = headL q from HE.out] at e2
      clear hkq h10
      generalize verbL kv = vl at *
      generalize [32] ++ q.name = nl at *
      go_wp2_with fail
      go_meet
      exact ⟨rfl, rfl⟩
  case rest =>
    obtain ⟨rfl, hwc⟩ := hcut
    have HXC : Hid (Blk wc w.heap.size 34 #[.int .i64 kv, .string (str q.name), .string (str q.other), .int .i64 q.b, .int .i64 q.l, .int .i64 q.n, .slice A q.cells.length cap]) := by rw [hwc]; exact HX1.out
    have HBC : Hid (Below w.heap.size w wc) := by rw [hwc]; exact (Below.refl _ _).alloc (Nat.le_refl _) _
    have HGC := Lib.hid (HG.out.below HBC.out)
    have HHL := Lib.hid (head_len2 q)
    have HP := Lib.hid (write_parts q)
    have c0 := HXC.out.cellS (i := 0) rfl
    clear hwc HX1
    go_upto_block 0 with fail
    go_cut [4] (fun s4 wx => s4 = .string (str (writeL txR q)) ∧ (writeL txR q).length ≤ 36028797018963968 ∧ Blk wx w.heap.size 34 #[.int .i64 kv, .string (str q.name), .string (str q.other), .int .i64 q.b, .int .i64 q.l, .int .i64 q.n, .slice A q.cells.length cap] ∧ Below w.heap.size w wx)
    case first =>
      have HHN : Hid ((headL q).length ≤ 281474976710662) := by show _ ≤ _; have := HHL.out; have := HQ.out.name; omega
      by_cases e1 : kv = 1
      · subst e1
        have c3 := HXC.out.cellS (i := 3) rfl
        have c4 := HXC.out.cellS (i := 4) rfl
        have HRL : Hid (restL q = 32 :: txR q.b q.l) := by show _ = _; unfold restL; rw [hkq, if_pos rfl]
        by_cases hgd : goodR q.b q.l
        · have HTX := Lib.hid (txR_good hgd)
          have HTL : Hid ((textL q.b q.l).length ≤ 21) := by
            show _ ≤ _
            unfold textL
            have := digs_len q.b 9
            have := digs_len q.l 9
            simp only [List.length_cons, List.length_append]
            omega
          have HTG : Hid (Calls Tryd.prog 19 #[.agg #[.int .i64 q.b, .int .i64 q.l]] wc fun e w' => e = .returned (.tuple #[.string (str (textL q.b q.l)), .int .i64 0]) ∧ Below wc.heap.size wc w') := text_good wc q.b q.l hgd
          have g1 := run_cat [32] (textL q.b q.l) (by have := HTL.out; rw [List.length_singleton]; omega)
          have g2 := run_cat (headL q) ([32] ++ textL q.b q.l) (by have := HHN.out; have := HTL.out; rw [List.length_append, List.length_singleton]; omega)
          rw [show str [32] = ⟨#[32]⟩ from rfl] at g1
          have HW : Hid (writeL txR q = headL q ++ ([32] ++ textL q.b q.l)) := by show _ = _; rw [HP.out, HRL.out, HTX.out]; rfl
          have HWL : Hid ((writeL txR q).length ≤ 36028797018963968) := by show _ ≤ _; rw [HW.out, List.length_append, List.length_append, List.length_singleton]; have := HHN.out; have := HTL.out; omega
          clear hgd hkq
          generalize [32] ++ textL q.b q.l = ol at *
          generalize textL q.b q.l = tx at *
          go_wp2_with fail
          (with_reducible refine HTG.out.mono ?_)
          rintro e w2 ⟨rfl, hb2⟩
          have HX2 : Hid (Blk w2 w.heap.size 34 #[.int .i64 1, .string (str q.name), .string (str q.other), .int .i64 q.b, .int .i64 q.l, .int .i64 q.n, .slice A q.cells.length cap]) := HXC.out.mod (Mod.of_below_all hb2) (fun h => h)
          have HB2 : Hid (Below w.heap.size w w2) := HBC.out.trans (hb2.mono HBC.out.size)
          clear hb2
          go_wp2_with fail
          go_meet
          exact ⟨by rw [HW.out], HWL.out, HX2.out, HB2.out⟩
        · have HTX := Lib.hid (txR_bad hgd)
          have HTL : Hid (([] : List UInt8).length ≤ 21) := Nat.zero_le _
          have HTG := Lib.hid (text_bad wc q.b q.l HQ.out.b hgd)
          have g1 := run_cat [32] (([] : List UInt8)) (by have := HTL.out; rw [List.length_singleton]; omega)
          have g2 := run_cat (headL q) ([32] ++ ([] : List UInt8)) (by have := HHN.out; have := HTL.out; rw [List.length_append, List.length_singleton]; omega)
          rw [show str [32] = ⟨#[32]⟩ from rfl] at g1
          have HW : Hid (writeL txR q = headL q ++ ([32] ++ ([] : List UInt8))) := by show _ = _; rw [HP.out, HRL.out, HTX.out]; rfl
          have HWL : Hid ((writeL txR q).length ≤ 36028797018963968) := by show _ ≤ _; rw [HW.out, List.length_append, List.length_append, List.length_singleton]; have := HHN.out; have := HTL.out; omega
          clear hgd hkq
          generalize [32] ++ ([] : List UInt8) = ol at *
          generalize ([] : List UInt8) = tx at *
          go_wp2_with fail
          (with_reducible refine HTG.out.mono ?_)
          rintro e w2 ⟨rfl, hb2⟩
          have HX2 : Hid (Blk w2 w.heap.size 34 #[.int .i64 1, .string (str q.name), .string (str q.other), .int .i64 q.b, .int .i64 q.l, .int .i64 q.n, .slice A q.cells.length cap]) := HXC.out.mod (Mod.of_below_all hb2) (fun h => h)
          have HB2 : Hid (Below w.heap.size w w2) := HBC.out.trans (hb2.mono HBC.out.size)
          clear hb2
          go_wp2_with fail
          go_meet
          exact ⟨by rw [HW.out], HWL.out, HX2.out, HB2.out⟩
      by_cases e2 : kv = 2
      · subst e2
        have c6 := HXC.out.cellS (i := 6) rfl
        obtain ⟨hfl, hat⟩ := HV.out.pairs
        have HAT := Lib.hid hat
        have HW : Hid (writeL txR q = headL q ++ (q.cells.take q.cells.length).flatMap fun c => 32 :: cellL c) := by show _ = _; rw [HP.out, List.take_length]; unfold restL; rw [hkq, if_neg (by decide), if_pos rfl]
        have HWL : Hid (∀ k, (headL q ++ (q.cells.take k).flatMap fun c => 32 :: cellL c).length ≤ 281474976710662 + 42 * q.cells.length) := fun k => by
          rw [List.length_append]
          have := HHN.out
          have := cells_len q.cells (fun c hc => HQ.out.cells c hc) k
          omega
        have HCL := Lib.hid HQ.out.len
        have HCI := Lib.hid HQ.out.cells
        have H0 : Hid (headL q = headL q ++ (q.cells.take 0).flatMap fun c => 32 :: cellL c) := by show _ = _; simp
        have HST : Hid (∀ k, k < q.cells.length → (headL q ++ (q.cells.take k).flatMap fun c => 32 :: cellL c) ++ ((([32] ++ Lib.itoa q.cells[k]!.1) ++ [44]) ++ Lib.itoa q.cells[k]!.2) = headL q ++ (q.cells.take (k + 1)).flatMap fun c => 32 :: cellL c) := fun k hk => by
          rw [List.take_add_one, List.flatMap_append, List.getElem!_eq_getElem?_getD, List.getElem?_eq_getElem hk]
          simp [cellL]
        have hcn : q.cells.length ≤ 281474976710656 := HCL.out
        clear hfl hat hkq
        generalize hnn : q.cells.length = nn at *
        have HNN := Lib.hid hnn
        clear hnn
        go_wp2_with fail
        go_loopw [4, 50] (fun sv iv wx => ∃ k : Nat, k ≤ nn ∧ iv = .int .i64 k ∧ sv = .string (str (headL q ++ (q.cells.take k).flatMap fun c => 32 :: cellL c)) ∧ Blk wx w.heap.size 34 #[.int .i64 2, .string (str q.name), .string (str q.other), .int .i64 q.b, .int .i64 q.l, .int .i64 q.n, .slice A nn cap] ∧ Below w.heap.size w wx) (fun _ iv _ => nn - (intOf iv).toNat)
        case atStart => exact ⟨0, Nat.zero_le _, rfl, by rw [← H0.out], HXC.out, HBC.out⟩
        case round =>
          obtain ⟨k, hk, rfl, rfl, hx, hb⟩ := hrel
          have HXK := Lib.hid hx
          have HBK := Lib.hid hb
          by_cases hlt : k < nn
          · obtain ⟨b, off, cp, he, _, _, hb1, hcs⟩ := HAT.out (by omega)
            injection he with he1 he2 he3
            subst he1 he3
            obtain ⟨c1, c2⟩ := hcs k hlt
            rw [← hb.cell (World.block_lt_of_cell? w _ c1)] at c1
            rw [← hb.cell (World.block_lt_of_cell? w _ c2)] at c2
            have hst := HST.out k hlt
            have hin : (-9223372036854775808 ≤ q.cells[k]!.1 ∧ q.cells[k]!.1 ≤ 9223372036854775807) ∧ (-9223372036854775808 ≤ q.cells[k]!.2 ∧ q.cells[k]!.2 ≤ 9223372036854775807) := HCI.out _ (by rw [List.getElem!_eq_getElem?_getD, List.getElem?_eq_getElem (by rw [HNN.out]; exact hlt)]; simp)
            have hl0 := HWL.out k
            have hl1 := HWL.out (k + 1)
            rw [← hst] at hl1
            generalize (headL q ++ (q.cells.take k).flatMap fun c => 32 :: cellL c) = P at hst hl0 hl1 ⊢
            generalize q.cells[k]! = c at c1 c2 hst hin hl1
            obtain ⟨x, y⟩ := c
            obtain ⟨⟨o1, o2⟩, o3, o4⟩ := hin
            dsimp only at c1 c2 hst o1 o2 o3 o4 hl1
            have HIX := Lib.hid (fun w' (h : Below w.heap.size w w') => itoa_any w' x o1 o2 (HG.out.below h))
            have HIY := Lib.hid (fun w' (h : Below w.heap.size w w') => itoa_any w' y o3 o4 (HG.out.below h))
            have hxl := itoa_len o1 o2
            have hyl := itoa_len o3 o4
            clear o1 o2 o3 o4 hcs hx hb
            generalize Lib.itoa x = X at *
            generalize Lib.itoa y = Y at *
            have r1 := run_cat [32] X (by rw [List.length_singleton]; omega)
            have r2 := run_cat ([32] ++ X) [44] (by rw [List.length_append, List.length_singleton, List.length_singleton]; omega)
            have r3 := run_cat (([32] ++ X) ++ [44]) Y (by rw [List.length_append, List.length_append, List.length_singleton, List.length_singleton]; omega)
            have r4 := run_cat P ((([32] ++ X) ++ [44]) ++ Y) (by rw [List.length_append] at hl1; omega)
            rw [show str [32] = ⟨#[32]⟩ from rfl] at r1
            rw [show str [44] = ⟨#[44]⟩ from rfl] at r2
            rw [hst] at r4
            have HSTR := Lib.hid hst
            clear hst hl0 hl1 hxl hyl
            generalize (([32] ++ X) ++ [44]) ++ Y = s3 at *
            generalize ([32] ++ X) ++ [44] = s2 at *
            generalize [32] ++ X = s1 at *
            generalize hpp : (headL q ++ (q.cells.take (k + 1)).flatMap fun c => 32 :: cellL c) = P' at *
            have HPP := Lib.hid hpp
            clear hpp
            have HBA : Hid (Below w.heap.size w (wr.alloc (.cells #[.int .i64 x, .int .i64 y] 57))) := HBK.out.alloc HBK.out.size _
            have hxa : Blk (wr.alloc (.cells #[.int .i64 x, .int .i64 y] 57)) wr.heap.size 57 #[.int .i64 x, .int .i64 y] := Blk.new wr _ _
            have HXA : Hid (Blk (wr.alloc (.cells #[.int .i64 x, .int .i64 y] 57)) w.heap.size 34 #[.int .i64 2, .string (str q.name), .string (str q.other), .int .i64 q.b, .int .i64 q.l, .int .i64 q.n, .slice (some ⟨b, off, none⟩) nn cap]) := HXK.out.alloc _
            have d0 := hxa.cellS (i := 0) rfl
            have d1 := hxa.cellS (i := 1) rfl
            have HYA := Lib.hid hxa
            clear hxa
            go_upto_region 14 with fail
            have hlta : wr.heap.size < (wr.alloc (.cells #[.int .i64 x, .int .i64 y] 57)).heap.size := by rw [World.size_alloc]; omega
            go_region_held3 (fun w' => w'.cell? ⟨wr.heap.size, 0, none⟩ = some (.int .i64 x) ∧ w'.cell? ⟨wr.heap.size, 1, none⟩ = some (.int .i64 y)) (first | exact ⟨d0, d1⟩ | exact ⟨(hb2.cell (p := ⟨wr.heap.size, 0, none⟩) hlta).trans d0, (hb2.cell (p := ⟨wr.heap.size, 1, none⟩) hlta).trans d1⟩ | exact ⟨(hb3.cell (p := ⟨wr.heap.size, 0, none⟩) hlt2).trans ((hb2.cell (p := ⟨wr.heap.size, 0, none⟩) hlta).trans d0), (hb3.cell (p := ⟨wr.heap.size, 1, none⟩) hlt2).trans ((hb2.cell (p := ⟨wr.heap.size, 1, none⟩) hlta).trans d1)⟩)
              (first
                | (go_at_call_of 20 (Value.int .i64 x); refine (HIX.out _ (by exact ⟨HBA.out.os, HBA.out.tape, HBA.out.output, HBA.out.size, HBA.out.block⟩)).mono ?_; rintro e w2 ⟨rfl, hb2⟩; have hlt2 : wr.heap.size < w2.heap.size := Nat.lt_of_lt_of_le hlta hb2.size; have HB2 : Hid (Below w.heap.size w w2) := HBA.out.trans ((show Below (wr.alloc (.cells #[.int .i64 x, .int .i64 y] 57)).heap.size (wr.alloc (.cells #[.int .i64 x, .int .i64 y] 57)) w2 from ⟨hb2.os, hb2.tape, hb2.output, hb2.size, hb2.block⟩).mono HBA.out.size))
                | (go_at_call_of 20 (Value.int .i64 y); refine (HIY.out _ (by exact ⟨HB2.out.os, HB2.out.tape, HB2.out.output, HB2.out.size, HB2.out.block⟩)).mono ?_; rintro e w3 ⟨rfl, hb3⟩))
            have HB3 : Hid (Below w.heap.size w w3) := HB2.out.trans ((show Below w2.heap.size w2 w3 from ⟨hb3.os, hb3.tape, hb3.output, hb3.size, hb3.block⟩).mono HB2.out.size)
            have HX2 := Lib.hid (HXA.out.mod (Mod.of_below_all (show Below (wr.alloc (.cells #[.int .i64 x, .int .i64 y] 57)).heap.size (wr.alloc (.cells #[.int .i64 x, .int .i64 y] 57)) w2 from ⟨hb2.os, hb2.tape, hb2.output, hb2.size, hb2.block⟩)) (fun h => h))
            have HX3 := Lib.hid (HX2.out.mod (Mod.of_below_all (show Below w2.heap.size w2 w3 from ⟨hb3.os, hb3.tape, hb3.output, hb3.size, hb3.block⟩)) (fun h => h))
            clear hb2 hb3 hlta hlt2 d0 d1
            go_wp2_with fail
            go_roundw
            case rel => exact ⟨k + 1, by omega, by go_num, by rw [HPP.out], HX3.out, HB3.out⟩
            case measure => simp [intOf]; omega
          · obtain rfl : k = nn := by omega
            have hwl := HWL.out k
            have HW2 : Hid (writeL txR q = headL q ++ (q.cells.take k).flatMap fun c => 32 :: cellL c) := HW.out
            have HWL2 : Hid ((writeL txR q).length ≤ 36028797018963968) := by show _ ≤ _; rw [HW2.out]; omega
            clear hx hb hwl
            go_wp2_with fail
            go_meet
            exact ⟨by rw [HW2.out], HWL2.out, HXK.out, HBK.out⟩
      by_cases e4 : kv = 4
      · subst e4
        have c5 := HXC.out.cellS (i := 5) rfl
        have HIL := Lib.hid (itoa_len HQ.out.n.1 HQ.out.n.2)
        have HIT := Lib.hid (itoa_any wc q.n HQ.out.n.1 HQ.out.n.2 HGC.out)
        have g1 := run_cat [32] (Lib.itoa q.n) (by have := HIL.out; rw [List.length_singleton]; omega)
        have g2 := run_cat (headL q) ([32] ++ Lib.itoa q.n) (by have := HHN.out; have := HIL.out; rw [List.length_append, List.length_singleton]; omega)
        rw [show str [32] = ⟨#[32]⟩ from rfl] at g1
        have HW : Hid (writeL txR q = headL q ++ ([32] ++ Lib.itoa q.n)) := by show _ = _; rw [HP.out]; unfold restL; rw [hkq, if_neg (by decide), if_neg (by decide), if_pos (.inl rfl)]; rfl
        have HWL : Hid ((writeL txR q).length ≤ 36028797018963968) := by show _ ≤ _; rw [HW.out, List.length_append, List.length_append, List.length_singleton]; have := HHN.out; have := HIL.out; omega
        clear hkq
        generalize [32] ++ Lib.itoa q.n = ol at *
        generalize Lib.itoa q.n = it at *
        go_wp2_with fail
        (with_reducible refine HIT.out.mono ?_)
        rintro e w2 ⟨rfl, hb2⟩
        have HX2 : Hid (Blk w2 w.heap.size 34 #[.int .i64 4, .string (str q.name), .string (str q.other), .int .i64 q.b, .int .i64 q.l, .int .i64 q.n, .slice A q.cells.length cap]) := HXC.out.mod (Mod.of_below_all hb2) (fun h => h)
        have HB2 : Hid (Below w.heap.size w w2) := HBC.out.trans (hb2.mono HBC.out.size)
        clear hb2
        go_wp2_with fail
        go_meet
        exact ⟨by rw [HW.out], HWL.out, HX2.out, HB2.out⟩
      by_cases e9 : kv = 9
      · subst e9
        have c5 := HXC.out.cellS (i := 5) rfl
        have HIL := Lib.hid (itoa_len HQ.out.n.1 HQ.out.n.2)
        have HIT := Lib.hid (itoa_any wc q.n HQ.out.n.1 HQ.out.n.2 HGC.out)
        have g1 := run_cat [32] (Lib.itoa q.n) (by have := HIL.out; rw [List.length_singleton]; omega)
        have g2 := run_cat (headL q) ([32] ++ Lib.itoa q.n) (by have := HHN.out; have := HIL.out; rw [List.length_append, List.length_singleton]; omega)
        rw [show str [32] = ⟨#[32]⟩ from rfl] at g1
        have HW : Hid (writeL txR q = headL q ++ ([32] ++ Lib.itoa q.n)) := by show _ = _; rw [HP.out]; unfold restL; rw [hkq, if_neg (by decide), if_neg (by decide), if_pos (.inr rfl)]; rfl
        have HWL : Hid ((writeL txR q).length ≤ 36028797018963968) := by show _ ≤ _; rw [HW.out, List.length_append, List.length_append, List.length_singleton]; have := HHN.out; have := HIL.out; omega
        clear hkq
        generalize [32] ++ Lib.itoa q.n = ol at *
        generalize Lib.itoa q.n = it at *
        go_wp2_with fail
        (with_reducible refine HIT.out.mono ?_)
        rintro e w2 ⟨rfl, hb2⟩
        have HX2 : Hid (Blk w2 w.heap.size 34 #[.int .i64 9, .string (str q.name), .string (str q.other), .int .i64 q.b, .int .i64 q.l, .int .i64 q.n, .slice A q.cells.length cap]) := HXC.out.mod (Mod.of_below_all hb2) (fun h => h)
        have HB2 : Hid (Below w.heap.size w w2) := HBC.out.trans (hb2.mono HBC.out.size)
        clear hb2
        go_wp2_with fail
        go_meet
        exact ⟨by rw [HW.out], HWL.out, HX2.out, HB2.out⟩
      by_cases e8 : kv = 8
      · subst e8
        have c2 := HXC.out.cellS (i := 2) rfl
        have HOL := Lib.hid HQ.out.other
        have e1 := run_cat [32] q.other (by have := HOL.out; rw [List.length_singleton]; omega)
        have e2 := run_cat (headL q) ([32] ++ q.other) (by have := HHN.out; have := HOL.out; rw [List.length_append, List.length_singleton]; omega)
        rw [show str [32] = ⟨#[32]⟩ from rfl] at e1
        have HW : Hid (writeL txR q = headL q ++ ([32] ++ q.other)) := by show _ = _; rw [HP.out]; unfold restL; rw [hkq, if_neg (by decide), if_neg (by decide), if_neg (by decide), if_pos rfl]; rfl
        have HWL : Hid ((writeL txR q).length ≤ 36028797018963968) := by show _ ≤ _; rw [HW.out, List.length_append, List.length_append, List.length_singleton]; have := HHN.out; have := HOL.out; omega
        clear hkq
        generalize [32] ++ q.other = ol at *
        go_wp2_with fail
        go_meet
        exact ⟨by rw [HW.out], HWL.out, HXC.out, HBC.out⟩
      · have HW : Hid (writeL txR q = headL q) := by show _ = _; rw [HP.out]; unfold restL; rw [hkq, if_neg e1, if_neg e2, if_neg (by omega), if_neg e8, List.append_nil]
        have HWL : Hid ((writeL txR q).length ≤ 36028797018963968) := by show _ ≤ _; rw [HW.out]; have := HHN.out; omega
        have g1 : (kv == 1) = false := by simpa using e1
        have g2 : (kv == 2) = false := by simpa using e2
        have g4 : (kv == 4) = false := by simpa using e4
        have g9 : (kv == 9) = false := by simpa using e9
        have g8 : (kv == 8) = false := by simpa using e8
        clear hkq e1 e2 e4 e9 e8
        go_wp2_with fail
        go_meet
        exact ⟨by rw [HW.out], HWL.out, HXC.out, HBC.out⟩
    case rest =>
      obtain ⟨rfl, hl, hx, hb⟩ := hcut
      have HX2 := Lib.hid hx
      have HB2 := Lib.hid hb
      obtain ⟨m, hm⟩ := (HG.out.below hb).m
      have HM := Lib.hid hm
      have HL := Lib.hid hl
      clear hl hx hb hm
      generalize hS : writeL txR q = S at *
      have HS := Lib.hid hS
      clear hS
      go_wp2_with fail
      (with_reducible refine (readS_any _ m HM.out S (by have := HL.out; omega)).mono ?_)
      rintro e w3 ⟨v3, rfl, hs3, hf3, hb3⟩
      have HB3 : Hid (Below w.heap.size w w3) := HB2.out.trans (hb3.mono HB2.out.size)
      have HX3 := Lib.hid (HX2.out.mod (Mod.of_below_all hb3) (fun h => h))
      have HS3 := Lib.hid hs3.rd
      obtain ⟨A3, cap3, rfl, _, _⟩ := hs3.form
      clear hs3 hf3 hb3
      generalize hr : readS readR S = r at *
      have HR := Lib.hid hr
      clear hr
      obtain ⟨q3, f3⟩ := r
      dsimp only at *
      by_cases hf : f3 = 0
      · subst hf
        have hz3 : w.heap.size < w3.heap.size := HX3.out.lt
        have hx4 : Blk (w3.alloc (.cells #[.int .i64 q3.verb, .string (str q3.name), .string (str q3.other), .int .i64 q3.b, .int .i64 q3.l, .int .i64 q3.n, .slice A3 q3.cells.length cap3] 34)) w.heap.size 34 #[.int .i64 kv, .string (str q.name), .string (str q.other), .int .i64 q.b, .int .i64 q.l, .int .i64 q.n, .slice A q.cells.length cap] := HX3.out.alloc _
        have hy4 : Blk (w3.alloc (.cells #[.int .i64 q3.verb, .string (str q3.name), .string (str q3.other), .int .i64 q3.b, .int .i64 q3.l, .int .i64 q3.n, .slice A3 q3.cells.length cap3] 34)) w3.heap.size 34 #[.int .i64 q3.verb, .string (str q3.name), .string (str q3.other), .int .i64 q3.b, .int .i64 q3.l, .int .i64 q3.n, .slice A3 q3.cells.length cap3] := Blk.new w3 _ _
        have c0 := hx4.cellS (i := 0) rfl
        have c1 := hx4.cellS (i := 1) rfl
        have c2 := hx4.cellS (i := 2) rfl
        have c3 := hx4.cellS (i := 3) rfl
        have c4 := hx4.cellS (i := 4) rfl
        have c5 := hx4.cellS (i := 5) rfl
        have c6 := hx4.cellS (i := 6) rfl
        have d0 := hy4.cellS (i := 0) rfl
        have d1 := hy4.cellS (i := 1) rfl
        have d2 := hy4.cellS (i := 2) rfl
        have d3 := hy4.cellS (i := 3) rfl
        have d4 := hy4.cellS (i := 4) rfl
        have d5 := hy4.cellS (i := 5) rfl
        have d6 := hy4.cellS (i := 6) rfl
        have hv4 : Rd (w3.alloc (.cells #[.int .i64 q3.verb, .string (str q3.name), .string (str q3.other), .int .i64 q3.b, .int .i64 q3.l, .int .i64 q3.n, .slice A3 q3.cells.length cap3] 34)) (min B w.heap.size) 2 (.slice A q.cells.length cap) q.cells.length (flat q.cells) := by
          obtain ⟨h1, A', cap', he, h2, h3, h4⟩ := HV.out
          refine ⟨h1, A', cap', he, h2, h3, fun hn => ?_⟩
          obtain ⟨b, off, e, hb, hc⟩ := h4 hn
          have hbl : b < w.heap.size := by
            have hpos : 0 < (flat q.cells).length := by rw [h1]; omega
            exact World.block_lt_of_cell? w _ (hc 0 _ (List.getElem?_eq_getElem hpos))
          refine ⟨b, off, e, by omega, fun j u hj => ?_⟩
          have := hc j u hj
          rw [← HB3.out.cell (p := ⟨b, off + j, none⟩) hbl] at this
          exact (World.cell?_alloc_lt w3 _ (a := ⟨b, off + j, none⟩) (by show b < _; omega)).trans this
        have hv3 := HS3.out.keep (w' := w3.alloc (.cells #[.int .i64 q3.verb, .string (str q3.name), .string (str q3.other), .int .i64 q3.b, .int .i64 q3.l, .int .i64 q3.n, .slice A3 q3.cells.length cap3] 34)) fun b hb => Below.heap_alloc w3 _ b hb
        have HSM := Lib.hid (sameS_any _ _ _ q3 q _ _ hv3 hv4)
        unfold reqV at HSM
        rw [hkq] at HSM
        have HB4 : Hid (Below w.heap.size w (w3.alloc (.cells #[.int .i64 q3.verb, .string (str q3.name), .string (str q3.other), .int .i64 q3.b, .int .i64 q3.l, .int .i64 q3.n, .slice A3 q3.cells.length cap3] 34))) := HB3.out.alloc HB3.out.size _
        clear hz3 hx4 hy4 hv4 hv3
        unfold reqV
        go_wp2_with fail
        (with_reducible refine HSM.out.mono ?_)
        rintro e w5 ⟨c, hc, rfl, hb5⟩
        have HC := Lib.hid hc
        have HB5 : Hid (Below w.heap.size w w5) := HB4.out.trans (hb5.mono HB4.out.size)
        clear hc hb5
        cases c
        · go_wp2_with fail
          go_ret2
          refine ⟨[], 2, rfl, HB5.out, .inr ⟨by decide, rfl, fun h => ?_⟩⟩
          have h2 := h.2
          rw [HS.out, HR.out] at h2
          injection h2 with h2 _
          have := HC.out.2 h2
          cases this
        · go_wp2_with fail
          go_ret2
          have h := HC.out.1 (by trivial)
          subst h
          exact ⟨_, 0, rfl, HB5.out, .inl ⟨rfl, by rw [hkq]; exact HKR.out, HR.out, HS.out.symm⟩⟩
      · have hf' : (f3 != 0) = true := by simpa using hf
        have HF := Lib.hid hf
        have HB4 : Hid (Below w.heap.size w (w3.alloc (.cells #[.int .i64 q3.verb, .string (str q3.name), .string (str q3.other), .int .i64 q3.b, .int .i64 q3.l, .int .i64 q3.n, .slice A3 q3.cells.length cap3] 34))) := HB3.out.alloc HB3.out.size _
        clear hf
        unfold reqV
        go_wp2_with fail
        go_ret2
        refine ⟨[], f3, rfl, HB4.out, .inr ⟨HF.out, rfl, fun h => ?_⟩⟩
        have h2 := h.2
        rw [HS.out, HR.out] at h2
        injection h2 with _ h2
        exact HF.out h2
end Go.Proofs.YtkandepkojfblaaDoor
