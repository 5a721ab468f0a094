/- keys.Revoke: the walk. -/
import Derived.Test.YtfoipadgicjcaaaDoorFind
namespace Go.Proofs.YtfoipadgicjcaaaDoor
open Go.RowKit

/-- The keys without those of a name. -/
def without (name : ByteArray) (K : List KeyD) : List KeyD := K.filter fun k => !decide (k.name = name)
theorem without_step (name : ByteArray) (K : List KeyD) (i : Nat) (k : KeyD) (h : K[i]? = some k) : without name (K.take (i + 1)) = without name (K.take i) ++ (if k.name = name then [] else [k]) := by
  unfold without
  rw [List.take_add_one, h, List.filter_append]
  by_cases he : k.name = name <;> simp [he]
theorem without_len (name : ByteArray) (K : List KeyD) : (without name K).length ≤ K.length := List.length_filter_le _ _

theorem revoke_a {w5 w6 : World} {v5 v6 : Value} {B : Nat} {o : Obj} (hm : Mod (fun b => sblk v5 = some b) (w5.alloc o) w6) (hd : sblk v6 = sblk v5 ∨ sblk v6 = some (w5.alloc o).heap.size ∧ (w5.alloc o).heap.size < w6.heap.size)
    (hf : ∀ b, sblk v5 = some b → B < b) : Mod (fun b => B < b) (w5.alloc o) w6 ∧ (B ≤ w5.heap.size → ∀ b, sblk v6 = some b → B < b) := by
  refine ⟨hm.mono fun b _ h => hf b h, fun hB b hb => ?_⟩
  rcases hd with e | ⟨e, _⟩
  · exact hf b (by rw [← e]; exact hb)
  · rw [e] at hb
    have h1 := Option.some.inj hb
    rw [World.size_alloc] at h1
    omega

set_option maxRecDepth 100000 in
set_option maxHeartbeats 3200000 in
theorem revoke_any (w : World) (s : Int) (n : Nat) (hn : n ≤ 32) (K : List KeyD) (hK : K.length = n) (kv : Value) (B : Nat) (hB : B ≤ w.heap.size) (hk : Rd w B 3 kv n (keysV K)) (name : ByteArray) :
    Calls Tryd.prog 8 #[.agg #[.int .i64 s, kv], .string name] w fun e w' => ∃ v, e = .returned (.tuple #[.agg #[.int .i64 s, v], .int .i64 ((n : Int) - ((without name K).length : Int))]) ∧
      Rd w' w'.heap.size 3 v (without name K).length (keysV (without name K)) ∧ Below w.heap.size w w' := by
  have HK := Lib.hid hk
  obtain ⟨A, cap, rfl, hc1, hc2⟩ := hk.form
  clear hk
  go_enter Tryd.func8, Tryd.ntmps8
  go_wp2_with fail
  generalize hw1 : World.alloc (World.alloc (World.alloc w _) _) _ = w1
  have HB1 : Hid (Below w.heap.size w w1) := by subst hw1; exact (((Below.refl _ _).alloc (Nat.le_refl _) _).alloc (by simp) _).alloc (by simp; omega) _
  have HT1 : Hid (Blk w1 w.heap.size TB #[.int .i64 s, .slice A n cap]) := by subst hw1; exact ((Blk.new w _ _).alloc _).alloc _
  have HR1 : Hid (Blk w1 (w.heap.size + 1) TB #[.int .i64 0, .slice none 0 0]) := by subst hw1; have := Blk.new (w.alloc (.cells #[.int .i64 s, .slice A n cap] TB)) TB #[.int .i64 0, .slice none 0 0]; rw [World.size_alloc] at this; exact this.alloc _
  have HO1 : Hid (Blk w1 (w.heap.size + 1 + 1) TB #[.int .i64 s, .slice none 0 0]) := by subst hw1; have := Blk.new ((w.alloc (.cells #[.int .i64 s, .slice A n cap] TB)).alloc (.cells #[.int .i64 0, .slice none 0 0] TB)) TB #[.int .i64 s, .slice none 0 0]; rw [World.size_alloc, World.size_alloc] at this; exact this
  clear hw1
  go_loopw [8, 15] (fun _ iv wx => ∃ (i : Nat) (v : Value), iv = .int .i64 i ∧ i ≤ n ∧ Blk wx w.heap.size TB #[.int .i64 s, .slice A n cap] ∧ Blk wx (w.heap.size + 1) TB #[.int .i64 0, .slice none 0 0] ∧ Blk wx (w.heap.size + 1 + 1) TB #[.int .i64 s, v] ∧
    Sl wx KY 3 v (without name (K.take i)).length (keysV (without name (K.take i))) ∧ (∀ b, sblk v = some b → w.heap.size + 1 + 1 < b) ∧ Below w.heap.size w wx) (fun _ iv _ => n - (intOf iv).toNat)
  case atStart => exact ⟨0, _, rfl, Nat.zero_le _, HT1.out, HR1.out, HO1.out, Sl.nil _ _ _, by simp [sblk], HB1.out⟩
  case round =>
    obtain ⟨i, v, rfl, hi, hT, hR, hO, hs, hf, hb⟩ := hrel
    have HT := Lib.hid hT
    have HR := Lib.hid hR
    have HO := Lib.hid hO
    have HS := Lib.hid hs
    have HF := Lib.hid hf
    have HB := Lib.hid hb
    clear hT hR hO hs hf hb
    by_cases hin : i < n
    · obtain ⟨k, hki⟩ : ∃ k, K[i]? = some k := ⟨K[i]'(by omega), List.getElem?_eq_getElem (by omega)⟩
      have HST := Lib.hid (without_step name K i k hki)
      obtain ⟨b, off, cap', hA, _, _, hbB, hc⟩ := (HK.out.below (HB.out.mono hB)).at (by omega)
      injection hA with hA _ hcap; subst hA; subst hcap
      have c0 : wr.cell? ⟨b, off + i * 3, none⟩ = some (.string (str k.text)) := hc (i * 3) _ ((keysV_at K i k hki 0 (by omega)).trans rfl)
      have c1 : wr.cell? ⟨b, off + i * 3 + 1, none⟩ = some (.string k.name) := hc (i * 3 + 1) _ ((keysV_at K i k hki 1 (by omega)).trans rfl)
      have c2 : wr.cell? ⟨b, off + i * 3 + 2, none⟩ = some (.int .i64 k.rights) := hc (i * 3 + 2) _ ((keysV_at K i k hki 2 (by omega)).trans rfl)
      have hwi : IntKind.i64.wrap ((i : Int) + 1) = (i : Int) + 1 := by rw [IntKind.wrap_i64]; omega
      have hlt : (i : Int) < (n : Int) := by omega
      have hlen : (without name (K.take i)).length ≤ 32 := Nat.le_trans (without_len _ _) (by rw [List.length_take]; omega)
      clear hc
      have d1 : wr.cell? ⟨w.heap.size + 1 + 1, 1, none⟩ = some v := HO.out.cellS rfl
      have f1 := HO.out.frozen 1
      have hwl : w.heap.size + 1 + 1 < wr.heap.size := HO.out.lt
      by_cases he : k.name = name
      · have HST' : Hid (without name (K.take (i + 1)) = without name (K.take i)) := by show _ = _; rw [HST.out, if_pos he, List.append_nil]
        go_wp2_with fail
        refine ⟨⟨i + 1, v, by go_num, by omega, HT.out.alloc _, HR.out.alloc _, HO.out.alloc _, by rw [HST'.out]; exact HS.out.alloc _, HF.out, HB.out.alloc HB.out.size _⟩, ?_⟩
        simp [intOf]; omega
      · obtain ⟨A5, cap5, rfl, _, _⟩ := HS.out.form
        have HST' : Hid (without name (K.take (i + 1)) = without name (K.take i) ++ [k]) := by show _ = _; rw [HST.out, if_neg he]
        have HRD : Hid (Rd ((wr.alloc (.cells #[.string (str k.text), .string k.name, .int .i64 k.rights] 48)).alloc (.cells #[.string (str k.text), .string k.name, .int .i64 k.rights] 48)) (wr.heap.size + 1 + 1) 3 (.slice (some ⟨wr.heap.size + 1, 0, none⟩) 1 1) 1 [.string (str k.text), .string k.name, .int .i64 k.rights]) := by
          have h := Rd.fresh (wr.alloc (.cells #[.string (str k.text), .string k.name, .int .i64 k.rights] 48)) 48 #[.string (str k.text), .string k.name, .int .i64 k.rights] 3 1 rfl (by unfold maxLen; omega)
          rw [World.size_alloc] at h; exact h
        have HON : Hid (∀ u ∈ [Value.string (str k.text), .string k.name, .int .i64 k.rights], u.oneCell' = true) := by intro u hu; simp at hu; rcases hu with rfl | rfl | rfl <;> rfl
        have HKV : Hid (keysV (without name (K.take (i + 1))) = keysV (without name (K.take i)) ++ [Value.string (str k.text), .string k.name, .int .i64 k.rights] ∧ (without name (K.take (i + 1))).length = (without name (K.take i)).length + 1) := by
          show _ ∧ _
          rw [HST'.out, keysV, List.flatMap_append, List.length_append]
          exact ⟨rfl, rfl⟩
        generalize (without name (K.take i)).length = m at *
        generalize keysV (without name (K.take i)) = xs at *
        have hbe : (k.name.toList == name.toList) = false := by rw [beq_bytes]; exact decide_eq_false he
        go_upto_region 6 with fail
        go_wp2_with (at_builtin; (refine wpList_append_sl _ rfl (.tmp 24) (.tmp 26) 23 rfl 48 (.agg #[.string ⟨#[]⟩, .string ⟨#[]⟩, .int .i64 0]) 3 40 Tryd.underlying23 Tryd.infoKey rfl (by decide) rfl (by exact (HS.out.alloc _).alloc _) rfl (by exact HRD.out) HON.out (by omega) (by unfold maxLen; omega) ?_); intro v6 w6 hs6 hm6 hd6; obtain ⟨A6, cap6, rfl, _, _⟩ := hs6.form; have e6 := revoke_a hm6 hd6 HF.out; clear hm6 hd6; have HT6 := Lib.hid (((HT.out.alloc _).alloc _).mod e6.1 (fun e => by have e : w.heap.size + 1 + 1 < w.heap.size := e; omega)); have HR6 := Lib.hid (((HR.out.alloc _).alloc _).mod e6.1 (fun e => by have e : w.heap.size + 1 + 1 < w.heap.size + 1 := e; omega)); have HO6 := Lib.hid (((HO.out.alloc _).alloc _).mod e6.1 (fun e => by have e : w.heap.size + 1 + 1 < w.heap.size + 1 + 1 := e; omega)); have c60 : w6.cell? ⟨w.heap.size + 1 + 1, 1, none⟩ = some (.slice A5 m cap5) := HO6.out.cellS rfl; have f60 := HO6.out.frozen 1)
        have h6 := e6.2 (by rw [World.size_alloc]; omega)
        have hne : sblk (.slice A6 (m + 1) cap6) ≠ some (w.heap.size + 1 + 1) := fun e => by have := h6 _ e; omega
        have hb6 : Below w.heap.size w w6 := ((HB.out.alloc HB.out.size _).alloc (by rw [World.size_alloc]; have := HB.out.size; omega) _).trans (e6.1.below (by rw [World.size_alloc, World.size_alloc]; have := HB.out.size; omega) fun q hq e => by have e : w.heap.size + 1 + 1 < q := e; omega)
        refine ⟨⟨i + 1, .slice A6 (m + 1) cap6, by go_num, by omega, HT6.out.far (p := ⟨w.heap.size + 1 + 1, 1, none⟩) (by show w.heap.size ≠ w.heap.size + 1 + 1; omega) _, HR6.out.far (p := ⟨w.heap.size + 1 + 1, 1, none⟩) (by show w.heap.size + 1 ≠ w.heap.size + 1 + 1; omega) _, HO6.out.set 1 _, ?_, h6, hb6.setCell (p := ⟨w.heap.size + 1 + 1, 1, none⟩) (by show w.heap.size ≤ w.heap.size + 1 + 1; omega) _⟩, ?_⟩
        · rw [HKV.out.1, HKV.out.2]
          exact hs6.far (p := ⟨w.heap.size + 1 + 1, 1, none⟩) hne _
        · simp [intOf]; omega
    · have hge : (n : Int) ≤ (i : Int) := by omega
      have hin' : i = n := by omega
      have htk : K.take i = K := List.take_of_length_le (by omega)
      rw [htk] at HS
      have hlen : (without name K).length ≤ 32 := Nat.le_trans (without_len _ _) (by omega)
      obtain ⟨A5, cap5, rfl, _, _⟩ := HS.out.form
      have d0 : wr.cell? ⟨w.heap.size, 1, none⟩ = some (.slice A n cap) := HT.out.cellS rfl
      have d1 : wr.cell? ⟨w.heap.size + 1 + 1, 0, none⟩ = some (.int .i64 s) := HO.out.cellS rfl
      have d2 : wr.cell? ⟨w.heap.size + 1 + 1, 1, none⟩ = some (.slice A5 (without name K).length cap5) := HO.out.cellS rfl
      have d3 : wr.cell? ⟨w.heap.size + 1, 0, none⟩ = some (.int .i64 0) := HR.out.cellS rfl
      have d4 : wr.cell? ⟨w.heap.size + 1, 1, none⟩ = some (.slice none 0 0) := HR.out.cellS rfl
      have f3 := HR.out.frozen 0
      have f4 := HR.out.frozen 1
      have hne : sblk (.slice A5 (without name K).length cap5) ≠ some (w.heap.size + 1) := fun e => by have := HF.out _ e; omega
      have HE : Hid (Rd ((wr.setCell ⟨w.heap.size + 1, 0, none⟩ (.int .i64 s)).setCell ⟨w.heap.size + 1, 1, none⟩ (.slice A5 (without name K).length cap5)) ((wr.setCell ⟨w.heap.size + 1, 0, none⟩ (.int .i64 s)).setCell ⟨w.heap.size + 1, 1, none⟩ (.slice A5 (without name K).length cap5)).heap.size 3 (.slice A5 (without name K).length cap5) (without name K).length (keysV (without name K)) ∧ Below w.heap.size w ((wr.setCell ⟨w.heap.size + 1, 0, none⟩ (.int .i64 s)).setCell ⟨w.heap.size + 1, 1, none⟩ (.slice A5 (without name K).length cap5))) := ⟨((HS.out.far (p := ⟨w.heap.size + 1, 0, none⟩) hne _).far (p := ⟨w.heap.size + 1, 1, none⟩) hne _).rd, (HB.out.setCell (p := ⟨w.heap.size + 1, 0, none⟩) (by show w.heap.size ≤ w.heap.size + 1; omega) _).setCell (p := ⟨w.heap.size + 1, 1, none⟩) (by show w.heap.size ≤ w.heap.size + 1; omega) _⟩
      have k0 : ((wr.setCell ⟨w.heap.size + 1, 0, none⟩ (.int .i64 s)).setCell ⟨w.heap.size + 1, 1, none⟩ (.slice A5 (without name K).length cap5)).drew.cell? ⟨w.heap.size + 1, 0, none⟩ = some (.int .i64 s) := ((HR.out.set 0 _).set 1 _).drew.cellS rfl
      have k1 : ((wr.setCell ⟨w.heap.size + 1, 0, none⟩ (.int .i64 s)).setCell ⟨w.heap.size + 1, 1, none⟩ (.slice A5 (without name K).length cap5)).drew.cell? ⟨w.heap.size + 1, 1, none⟩ = some (.slice A5 (without name K).length cap5) := ((HR.out.set 0 _).set 1 _).drew.cellS rfl
      have K0 := Lib.hid k0
      have K1 := Lib.hid k1
      clear k0 k1
      generalize hm : (without name K).length = m at *
      have HMM := Lib.hid hm
      clear hm
      have hwm : IntKind.i64.wrap ((n : Int) - (m : Int)) = (n : Int) - (m : Int) := by rw [IntKind.wrap_i64]; omega
      clear HS HF htk
      go_wp2_with fail
      go_region_held3 (fun w' => w'.cell? ⟨w.heap.size, 1, none⟩ = some (.slice A n cap) ∧ w'.cell? ⟨w.heap.size + 1 + 1, 0, none⟩ = some (.int .i64 s) ∧ w'.cell? ⟨w.heap.size + 1 + 1, 1, none⟩ = some (.slice A5 m cap5)) (first | exact ⟨d0, d1, d2⟩ | go_keep) (fail)
      all_goals (go_wp2_with fail)
      have hm := HMM.out
      have k0 := K0.out
      have k1 := K1.out
      refine bodyPost_ret (v := .tuple #[.agg #[.int .i64 s, .slice A5 m cap5], .int .i64 ((n : Int) - (m : Int))]) (by simp [results, Tryd.results8, go_sem, k0, k1]) rfl ?_
      subst hm
      exact ⟨_, rfl, HE.out.1, HE.out.2.drew⟩
end Go.Proofs.YtfoipadgicjcaaaDoor
