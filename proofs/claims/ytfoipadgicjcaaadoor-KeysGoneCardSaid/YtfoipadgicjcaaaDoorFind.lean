/- keys.Find: the walk. -/
import Derived.Test.YtfoipadgicjcaaaDoorMint
namespace Go.Proofs.YtfoipadgicjcaaaDoor
open Go.RowKit

theorem keysV_at : ∀ (K : List KeyD) (i : Nat) (k : KeyD), K[i]? = some k → ∀ j, j < 3 → (keysV K)[i * 3 + j]? = (keyV k)[j]?
  | [], i, k, h => by simp at h
  | a :: K, 0, k, h => fun j hj => by
    simp at h; subst h
    rw [keysV, List.flatMap_cons, List.getElem?_append_left (by simp [keyV]; omega), Nat.zero_mul, Nat.zero_add]
  | a :: K, i + 1, k, h => fun j hj => by
    simp at h
    rw [keysV, List.flatMap_cons, List.getElem?_append_right (by simp [keyV]; omega), ← keysV_at K i k h j hj]
    simp only [keyV, List.length_cons, List.length_nil]
    congr 1; omega
theorem beq_bytes (a b : ByteArray) : (a.toList == b.toList) = decide (a = b) := by
  by_cases h : a = b
  · subst h; simp
  · have : a.toList ≠ b.toList := fun e => h (by rw [ByteArray.toList_eq, ByteArray.toList_eq] at e; exact ByteArray.ext (Array.toList_inj.1 e))
    simp [h, this]
/-- Where a text is first. -/
def IdxPost (K : List KeyD) (text : ByteArray) (x : Int) : Prop :=
  (∃ (i : Nat) (k : KeyD), x = i ∧ K[i]? = some k ∧ str k.text = text ∧ ∀ j k', j < i → K[j]? = some k' → str k'.text ≠ text) ∨ (x = -1 ∧ ∀ (j : Nat) k, K[j]? = some k → str k.text ≠ text)

set_option maxRecDepth 100000 in
set_option maxHeartbeats 3200000 in
theorem find_one (w : World) (a b : ByteArray) (r : Int) (p : Nat) (text : ByteArray) (h : w.cell? ⟨p, 0, none⟩ = some (.string text)) :
    Calls Tryd.prog 16 #[.agg #[.string a, .string b, .int .i64 r], .pointer (some ⟨p, 0, none⟩)] w fun e w' => e = .returned (.bool (decide (a = text))) ∧ Below w.heap.size w w' := by
  have hp : p < w.heap.size := World.block_lt_of_cell? w _ h
  go_enter Tryd.func16, Tryd.ntmps16
  go_wp2_with fail
  go_ret
  exact ⟨by rw [beq_bytes]; rfl, (Below.refl _ _).alloc (Nat.le_refl _) _⟩
set_option maxRecDepth 100000 in
set_option maxHeartbeats 3200000 in
theorem index_any (w : World) (n : Nat) (hn : n ≤ 32) (K : List KeyD) (hK : K.length = n) (kv : Value) (B : Nat) (hB : B ≤ w.heap.size) (hk : Rd w B 3 kv n (keysV K)) (text : ByteArray) (p : Nat) (h : w.cell? ⟨p, 0, none⟩ = some (.string text)) :
    Calls Tryd.prog 15 #[kv, .func (.func 16) #[] #[.pointer (some ⟨p, 0, none⟩)]] w fun e w' => ∃ x, IdxPost K text x ∧ e = .returned (.int .i64 x) ∧ Below w.heap.size w w' := by
  have hp : p < w.heap.size := World.block_lt_of_cell? w _ h
  have HK := Lib.hid hk
  have H := Lib.hid h
  obtain ⟨A, cap, rfl, hc1, hc2⟩ := hk.form
  clear hk h
  go_enter Tryd.func15, Tryd.ntmps15
  go_wp2_with fail
  go_loopw [8] (fun iv wx => ∃ i : Nat, iv = .int .i64 i ∧ i ≤ n ∧ (∀ (j : Nat) k, j < i → K[j]? = some k → str k.text ≠ text) ∧ Below w.heap.size w wx) (fun iv _ => n - (intOf iv).toNat)
  case atStart => exact ⟨0, rfl, Nat.zero_le _, fun j k hj => by omega, Below.refl _ _⟩
  case round =>
    obtain ⟨i, rfl, hi, hno, hb⟩ := hrel
    have HNO := Lib.hid hno
    have HB := Lib.hid hb
    clear hno hb
    by_cases hin : i < n
    · obtain ⟨k, hki⟩ : ∃ k, K[i]? = some k := ⟨K[i]'(by omega), List.getElem?_eq_getElem (by omega)⟩
      obtain ⟨b, off, cap', hA, _, _, hbB, hc⟩ := (HK.out.below (HB.out.mono hB)).at (by omega)
      injection hA with hA _ hcap; subst hA; subst hcap
      have c0 : wr.cell? ⟨b, off + i * 3, none⟩ = some (.string (str k.text)) := hc (i * 3) _ ((keysV_at K i k hki 0 (by omega)).trans rfl)
      have c1 : wr.cell? ⟨b, off + i * 3 + 1, none⟩ = some (.string k.name) := hc (i * 3 + 1) _ ((keysV_at K i k hki 1 (by omega)).trans rfl)
      have c2 : wr.cell? ⟨b, off + i * 3 + 2, none⟩ = some (.int .i64 k.rights) := hc (i * 3 + 2) _ ((keysV_at K i k hki 2 (by omega)).trans rfl)
      have heg : ∀ args w, (callFunc 16 args).run Tryd.prog w = .ok (.enter 16 args) w := enters_of Tryd.func16 (by kernel_rfl) rfl
      have hwi : IntKind.i64.wrap ((i : Int) + 1) = (i : Int) + 1 := by rw [IntKind.wrap_i64]; omega
      have hlt : (i : Int) < (n : Int) := by omega
      clear hc
      go_wp2_with fail
      (with_reducible refine (find_one _ _ _ _ p text ((HB.out.cell (p := ⟨p, 0, none⟩) hp).trans H.out)).mono ?_)
      rintro e w2 ⟨rfl, hb2⟩
      have HB2 : Hid (Below w.heap.size w w2) := HB.out.trans (hb2.mono HB.out.size)
      clear hb2
      by_cases he : str k.text = text
      · have hd : decide (str k.text = text) = true := decide_eq_true he
        rw [hd]
        clear hd
        have HP : Hid (IdxPost K text i) := .inl ⟨i, k, rfl, hki, he, HNO.out⟩
        go_wp2_with fail
        go_ret
        exact ⟨_, HP.out, rfl, HB2.out⟩
      · have hd : decide (str k.text = text) = false := decide_eq_false he
        rw [hd]
        clear hd
        go_wp2_with fail
        go_roundw
        case rel => exact ⟨i + 1, by go_num, by omega, fun j k' hj hk' => (by
          rcases Nat.lt_or_ge j i with h | h
          · exact HNO.out j k' h hk'
          · have : j = i := by omega
            subst this; rw [hki] at hk'; cases hk'; exact he), HB2.out⟩
        case measure => simp [intOf]; omega
    · have hge : (n : Int) ≤ (i : Int) := by omega
      have HP : Hid (IdxPost K text (-1)) := .inr ⟨rfl, fun j k hk => HNO.out j k (by have := (List.getElem?_eq_some_iff.1 hk).1; omega) hk⟩
      go_wp2_with fail
      go_ret
      exact ⟨_, HP.out, rfl, HB.out⟩

/-- What Find answers: name and code. -/
def FindPost (K : List KeyD) (text : ByteArray) (r : Int) (name : ByteArray) (x : Int) : Prop :=
  (∃ (i : Nat) (k : KeyD), K[i]? = some k ∧ str k.text = text ∧ (∀ j k', j < i → K[j]? = some k' → str k'.text ≠ text) ∧ ((bits .and .i64 k.rights r = r ∧ name = k.name ∧ x = 0) ∨ (bits .and .i64 k.rights r ≠ r ∧ name = ⟨#[]⟩ ∧ x = 10))) ∨
    ((∀ (j : Nat) k, K[j]? = some k → str k.text ≠ text) ∧ name = ⟨#[]⟩ ∧ x = 6)

set_option maxRecDepth 100000 in
set_option maxHeartbeats 3200000 in
theorem find_any (w : World) (s : Int) (n : Nat) (hn : n ≤ 32) (K : List KeyD) (hK : K.length = n) (kv : Value) (B : Nat) (hB : B ≤ w.heap.size) (hk : Rd w B 3 kv n (keysV K)) (text : ByteArray) (r : Int) :
    Calls Tryd.prog 9 #[.agg #[.int .i64 s, kv], .string text, .int .i64 r] w fun e w' => ∃ name x, FindPost K text r name x ∧ e = .returned (.tuple #[.string name, .int .i64 x]) ∧ Below w.heap.size w w' := by
  have HK := Lib.hid hk
  obtain ⟨A, cap, rfl, hc1, hc2⟩ := hk.form
  clear hk
  go_enter Tryd.func9, Tryd.ntmps9
  go_wp2_with fail
  generalize hw1 : World.alloc (World.alloc w _) _ = w1
  have HB1 : Hid (Below w.heap.size w w1) := by subst hw1; exact ((Below.refl _ _).alloc (Nat.le_refl _) _).alloc (by simp) _
  have HT1 : Hid (Blk w1 w.heap.size 25 #[.int .i64 s, .slice A n cap]) := by subst hw1; exact (Blk.new w _ _).alloc _
  have HX1 : Hid (Blk w1 (w.heap.size + 1) 9 #[.string text]) := by subst hw1; have := Blk.new (w.alloc (.cells #[.int .i64 s, .slice A n cap] 25)) 9 #[.string text]; rw [World.size_alloc] at this; exact this
  clear hw1
  (with_reducible refine (index_any w1 n hn K hK _ B (Nat.le_trans hB HB1.out.size) (HK.out.below (HB1.out.mono hB)) text (w.heap.size + 1) (HX1.out.cellS rfl)).mono ?_)
  rintro e w2 ⟨x, hx, rfl, hb2⟩
  have HB2 : Hid (Below w.heap.size w w2) := HB1.out.trans (hb2.mono HB1.out.size)
  have HT2 : Hid (Blk w2 w.heap.size 25 #[.int .i64 s, .slice A n cap]) := (hb2.block _ HT1.out.lt).trans HT1.out
  clear hb2
  rcases hx with ⟨i, k, rfl, hki, htx, hfst⟩ | ⟨rfl, hno⟩
  · have hin : i < n := by have := (List.getElem?_eq_some_iff.1 hki).1; omega
    obtain ⟨b, off, cap', hA, _, _, hbB, hc⟩ := (HK.out.below (HB2.out.mono hB)).at (by omega)
    injection hA with hA _ hcap; subst hA; subst hcap
    have c1 : w2.cell? ⟨b, off + i * 3 + 1, none⟩ = some (.string k.name) := hc (i * 3 + 1) _ ((keysV_at K i k hki 1 (by omega)).trans rfl)
    have c2 : w2.cell? ⟨b, off + i * 3 + 2, none⟩ = some (.int .i64 k.rights) := hc (i * 3 + 2) _ ((keysV_at K i k hki 2 (by omega)).trans rfl)
    have d1 : w2.cell? ⟨w.heap.size, 1, none⟩ = some (.slice (some ⟨b, off, none⟩) n cap) := HT2.out.cellS rfl
    have HF : Hid (∀ name x, ((bits .and .i64 k.rights r = r ∧ name = k.name ∧ x = 0) ∨ (bits .and .i64 k.rights r ≠ r ∧ name = ⟨#[]⟩ ∧ x = 10)) → FindPost K text r name x) := fun name x h => .inl ⟨i, k, hki, htx, hfst, h⟩
    have hi0 : ¬ ((i : Int) < 0) := by omega
    have hilt : (i : Int) < (n : Int) := by omega
    clear hc hfst
    by_cases hr : bits .and .i64 k.rights r = r
    · go_wp2_with fail
      go_ret2
      exact ⟨_, _, HF.out _ _ (.inl ⟨hr, rfl, rfl⟩), rfl, HB2.out⟩
    · go_wp2_with fail
      go_ret2
      exact ⟨_, _, HF.out _ _ (.inr ⟨hr, rfl, rfl⟩), rfl, HB2.out⟩
  · go_wp2_with fail
    go_ret2
    exact ⟨_, _, .inr ⟨hno, rfl, rfl⟩, rfl, HB2.out⟩
end Go.Proofs.YtfoipadgicjcaaaDoor
