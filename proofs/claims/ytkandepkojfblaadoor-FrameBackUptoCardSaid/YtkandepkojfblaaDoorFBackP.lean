/-
  lifelodgekeep.FrameBack: whatever its arguments, of bulk at most 1048576 together: it returns true, and its arguments read behind the call as they read before. The card: its listed variables tied to the program's text.
-/
import Derived.Test.YtkandepkojfblaaDoorDoor
import Derived.Test.YtkandepkojfblaaDoorFBackW
namespace Go.Proofs.YtkandepkojfblaaDoor
open Go.ChangeShapes Go.WideShapes Go.ChangeAt Go.RowKit Go.ChangeMaps

theorem bulk_strs {H : Type} : ∀ l : List ByteArray, Rows.uptoBulkAll (strs l : List (DataW H)) = totalL (l.map fun s => s.data.toList)
  | [] => by simp [strs, Rows.uptoBulkAll, totalL]
  | s :: l => by
    have ih := bulk_strs (H := H) l
    have e : (strs (s :: l) : List (DataW H)) = .lit (.string s.data.toList) :: strs l := rfl
    rw [e, Rows.uptoBulkAll, ih]
    simp [Rows.uptoBulk, totalL]
set_option maxRecDepth 100000 in
/-- A list of strings as an argument. -/
theorem strs_of {H : Type} {enc : TypeId × Value → H} {W : World} {base : Nat} {v : Value} {d : DataW H} {p : List MemPlace}
    (hv : Value.okWide Tryd.prog W .any base 22 v) (h : DataW.Trod enc Tryd.prog W 0 (fun _ => true) true 22 v d p) :
    ∃ (n : Nat) (L : List (List UInt8)), Rd W W.heap.size 1 v n (strsV L) ∧ totalL L ≤ Rows.uptoBulk d := by
  obtain ⟨a0, len, cap, rfl⟩ := okWide_slice Tryd.underlying22 hv
  obtain ⟨fuel, hf⟩ := h
  rcases open_strings Tryd.underlying22 Tryd.underlying9 (by kernel_rfl) hf with ⟨hcs, hx⟩ | ⟨a, len', cap', ss, hcs, hb, hl, hm, hlen, hx, hc, _⟩
  · simp [Value.cells] at hcs
    obtain ⟨rfl, rfl, rfl⟩ := hcs
    exact ⟨0, [], ⟨rfl, _, _, rfl, Nat.le_refl _, Nat.zero_le _, fun h => absurd h (Nat.lt_irrefl _)⟩, by simp [totalL]⟩
  · simp [Value.cells] at hcs
    obtain ⟨rfl, rfl, rfl⟩ := hcs
    have hd : d = .slice (strs (ss.take len)) (strs (ss.drop len)) := congrArg Prod.fst hx
    have hss : len ≤ ss.length := by rw [hlen]; split <;> omega
    have hL : ((ss.take len).map fun s => s.data.toList).length = len := by rw [List.length_map, List.length_take]; omega
    refine ⟨len, (ss.take len).map fun s => s.data.toList, ⟨by rw [strsV_length, hL, Nat.mul_one], _, _, rfl, by omega, by omega, fun hn => ?_⟩, ?_⟩
    · obtain ⟨b, off, spot⟩ := a
      have c0 := hc 0 (by omega)
      have hspot : spot = none := by simpa [Addr.add] using World.cell?_spot c0
      subst hspot
      refine ⟨b, off, rfl, by simpa [Addr.add] using World.block_lt_of_cell? W _ c0, fun j u hj => ?_⟩
      have hjl : j < len := by
        rcases Nat.lt_or_ge j len with h | h
        · exact h
        · rw [List.getElem?_eq_none (by rw [strsV_length, hL]; exact h)] at hj; cases hj
      have hcj := hc j (by omega)
      rw [Addr.add_lit] at hcj
      rw [hcj]
      have hg : ss.getD j ByteArray.empty = ss[j] := by rw [List.getD_eq_getElem?_getD, List.getElem?_eq_getElem (by omega)]; rfl
      rw [hg]
      simp only [strsV, List.getElem?_map, List.getElem?_take, hjl, if_true] at hj
      rw [List.getElem?_eq_getElem (by omega)] at hj
      simpa [str] using hj
    · rw [hd, ← bulk_strs (H := H)]
      simp only [Rows.uptoBulk]
      omega
set_option maxRecDepth 100000 in
theorem frameBack_contract (H : Type) (enc : TypeId × Value → H) (W : World) (base : Nat) (args : Array Value) (ds gs : List (DataW H)) (before : List MemPlace)
    (hval : ∀ (j : Nat) t v, Tryd.f3.params[j]? = some t → args[j]? = some v → Value.okWide Tryd.prog W .any base t v)
    (hW : DataW.Whole enc Tryd.prog Tryd.f3.params.toList Rows.frameBackSpec.vars false W args.toList ds gs before) (hsh : W.ShapedOpen Tryd.prog) (hk : Rows.uptoSmall H (ds ++ gs) = true) :
    Calls Tryd.prog 3 args W fun e W' => ∃ v, e = .returned v ∧ Rows.frameBackSpec.post enc Tryd.prog Tryd.f3 false true false false W args v W' := by
  have hW' := hW
  obtain ⟨p, q, hA0, hV, rfl, hfz, hnd⟩ := hW
  have hA : DataW.TrodAll enc Tryd.prog W 0 (fun _ => true) true Tryd.f3.params.toList args.toList ds p := hA0
  rw [Tryd.params3] at hA hval
  obtain ⟨v0, d0, rfl, rfl, h0⟩ := trodAll_one hA
  obtain ⟨rfl, rfl⟩ := trodVars_none hV
  obtain ⟨n, L, hR, ht⟩ := strs_of (hval 0 22 v0 rfl rfl) h0
  have hlen : totalL L ≤ 1048576 := by
    have h := of_decide_eq_true hk
    simp only [List.append_nil, Rows.uptoBulkAll] at h
    omega
  obtain ⟨m, hm⟩ := Tryd.laysM143.s1_3 W hsh
  refine (fback_any W m hm n v0 L hR hlen).mono fun e W' ⟨he, hb⟩ => ?_
  subst he
  exact ⟨_, rfl, law_post laidOutD (by rw [Tryd.params3]; intro t ht; simp at ht; rcases ht with rfl; exact ⟨by kernel_rfl, of_decide_eq_true (by kernel_rfl)⟩) rfl hW' hb (tb := 4) rfl Tryd.underlying4 rfl rfl rfl⟩

abbrev frameBackArgsW : Array Value := #[.slice none 0 0]
theorem frameBack_laid_met (os : Os) : laidMet Tryd.prog Rows.frameBackUptoRow.laid ((laidWorld os).forCall (fun _ _ => 0) ⟨#[], frameBackArgsW, []⟩).memory :=
  laidMet_of_run' 8 (by kernel_rfl) (by kernel_rfl)
theorem frameBack_reads (os : Os) {H : Type} (enc : TypeId × Value → H) : ∃ places, DataW.whole enc Tryd.prog ((laidWorld os).forCall (fun _ _ => 0) ⟨#[], frameBackArgsW, []⟩).memory Tryd.f3.params.toList Rows.frameBackSpec.vars false frameBackArgsW.toList 8 = some ([.nil], [], places) :=
  ⟨[], by kernel_rfl⟩

set_option maxRecDepth 100000 in
theorem frameBack_liftedUpto (os : Os) (started : os.Started) (H : Type) (enc : TypeId × Value → H) (F : Stop.Interp) :
    ReturnsInHanded {} Tryd.checked os 3 .any ((Rows.OpenSpec.upto Rows.frameBackSpec).preRow enc Tryd.prog Tryd.f3 Rows.frameBackUptoRow.domain false Rows.frameBackUptoRow.laid) (((Rows.OpenSpec.upto Rows.frameBackSpec).at F).post enc Tryd.prog Tryd.f3 false true false false) := by
  obtain ⟨places, hx⟩ := frameBack_reads os enc
  refine returnsInHanded_of_row (C := Tryd.checked) (s := Rows.OpenSpec.upto Rows.frameBackSpec) ownD started (by kernel_rfl) Tryd.func3
    (witness_row_at (enc := enc) (C := Tryd.checked) false (laidWorld os) frameBackArgsW rfl (by kernel_rfl) (by kernel_rfl) (by kernel_rfl)
      (OpenSpec.preRow_of_cond 8 hx (by kernel_rfl) (fun k hk => by cases hk; kernel_rfl) (by kernel_rfl) (frameBack_laid_met os))) ?_
  intro W base args ds gs before hval hW _ hcond _ hL hsh _
  exact frameBack_contract H enc W base args ds gs before hval hW hsh (hcond _ rfl)

theorem frameBack_saidUpto : Rows.FrameBackUptoSaid :=
  OpenClaim.holds_of_cond 3 Tryd.f3 rfl rfl rfl rfl rfl rfl rfl ⟨rfl, rfl, rfl, rfl, rfl⟩ rfl rfl rfl rfl rfl (by kernel_rfl) Tryd.func3 (by kernel_rfl)
    (of_decide_eq_true (by kernel_rfl)) (by unfold Func.isWrapper; rw [if_neg (of_decide_eq_false (by kernel_rfl))]; exact ⟨rfl, rfl⟩)
    (fun os started H enc _ F => by rw [OpenClaim.pre_eq_preRow]; exact frameBack_liftedUpto os started H enc F)

theorem frameBack_plain (f : FuncId) (fn : Func) (hf : Tryd.pinned.checked.prog.funcNamed "lifelodge/lifelodgekeep.FrameBack" = some f) (hfn : Tryd.pinned.checked.prog.funcs[f]? = some fn) :
    true = Tryd.pinned.checked.prog.looks [] ∧ ∀ (j : Nat) t, fn.params[j]? = some t → Tryd.pinned.checked.prog.wantsStandIn t = false := by
  obtain rfl : f = 3 := Option.some.inj ((show Tryd.prog.funcNamed "lifelodge/lifelodgekeep.FrameBack" = some 3 by kernel_rfl).symm.trans hf) |>.symm
  obtain rfl : fn = Tryd.f3 := (Option.some.inj (Tryd.func3.symm.trans hfn)).symm
  refine ⟨by kernel_rfl, fun j t ht => ?_⟩
  rw [Tryd.params3] at ht
  have hm := Array.mem_of_getElem? ht
  simp at hm
  rcases hm with rfl
  exact (show Tryd.prog.wantsStandIn 22 = false by kernel_rfl)

theorem frameBack_card : Rows.FrameBackUptoCardSaid :=
  Claim7.holds_tied_plain_at .later [] _ _ _ _ frameBack_saidUpto (fun _ h => by cases h) (by kernel_rfl) (fun _ h => by cases h) frameBackUpto_row_tie rfl ⟨rfl, rfl⟩ (by kernel_rfl) rfl frameBack_plain (by kernel_rfl)
#print axioms frameBack_card
end Go.Proofs.YtkandepkojfblaaDoor
