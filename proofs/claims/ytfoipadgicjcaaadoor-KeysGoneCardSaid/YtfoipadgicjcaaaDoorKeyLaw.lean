/- The plain law of keys: texts that were minted behind each other differ; what Find answers of them, with and without a name. No code here. -/
import Derived.Test.YtfoipadgicjcaaaDoorMinted
import Derived.Test.YtfoipadgicjcaaaDoorRevoke
import Derived.Test.YtfoipadgicjcaaaDoorKeyed
namespace Go.Proofs.YtfoipadgicjcaaaDoor
open Go.RowKit

theorem dec_inj : ∀ i j : Fin 32, Lib.decDigits i.val = Lib.decDigits j.val → i = j := by
  unfold Lib.decDigits; decide +kernel
theorem dec_cut (i : Nat) (hi : i < 32) (h : List UInt8) : (Lib.decDigits i ++ 107 :: h).takeWhile (fun c => c != 107) = Lib.decDigits i := by
  rw [List.takeWhile_append_of_pos]
  · simp
  · intro c hc
    have := (dec_small ⟨i, hi⟩).2.2 c hc
    simp
    rintro rfl
    have h2 := this.2
    revert h2
    decide
theorem keyT_inj {i j : Nat} (hi : i < 32) (hj : j < 32) {h h' : List UInt8} (e : str (keyT i h) = str (keyT j h')) : i = j := by
  have e1 : keyT i h = keyT j h' := by
    have := congrArg ByteArray.toList e
    rwa [str_toList, str_toList] at this
  have e2 : Lib.decDigits i ++ 107 :: h = Lib.decDigits j ++ 107 :: h' := (List.cons.inj e1).2
  have e3 := congrArg (fun l => l.takeWhile (fun c : UInt8 => c != 107)) e2
  simp only [dec_cut i hi, dec_cut j hj] at e3
  exact congrArg Fin.val (dec_inj ⟨i, hi⟩ ⟨j, hj⟩ e3)

section
variable {L : List WantD} {K : List KeyD}
theorem Made.inj (hM : Made L K) (hK : K.length ≤ 32) {i j : Nat} {k k' : KeyD} (hi : K[i]? = some k) (hj : K[j]? = some k') (e : str k.text = str k'.text) : i = j := by
  have h1 := (List.getElem?_eq_some_iff.1 hi).1
  have h2 := (List.getElem?_eq_some_iff.1 hj).1
  obtain ⟨_, _, _, _, rfl⟩ := hM i k hi
  obtain ⟨_, _, _, _, rfl⟩ := hM j k' hj
  exact keyT_inj (by omega) (by omega) e
theorem Made.own (hM : Made L K) (hK : K.length ≤ 32) {i : Nat} {k : KeyD} (hi : K[i]? = some k) {r x : Int} {name : ByteArray} (hf : FindPost K (str k.text) r name x) :
    (bits .and .i64 k.rights r = r ∧ name = k.name ∧ x = 0) ∨ (bits .and .i64 k.rights r ≠ r ∧ name = ⟨#[]⟩ ∧ x = 10) := by
  rcases hf with ⟨j, k', hj, he, _, h⟩ | ⟨h, _⟩
  · obtain rfl := hM.inj hK hi hj he.symm
    rw [hi] at hj
    cases hj
    exact h
  · exact absurd rfl (h i k hi)
theorem Made.rights (hM : Made L K) {k : KeyD} (hk : k ∈ K) : 1 ≤ k.rights ∧ k.rights ≤ 3 := by
  obtain ⟨i, hi⟩ := List.mem_iff_getElem?.1 hk
  obtain ⟨_, wd, _, _, rfl⟩ := hM i k hi
  have h1 := Int.emod_nonneg wd.rights (show (3 : Int) ≠ 0 by omega)
  have h2 := Int.emod_lt_of_pos wd.rights (show (0 : Int) < 3 by omega)
  constructor
  · show 1 ≤ 1 + wd.rights % 3; omega
  · show 1 + wd.rights % 3 ≤ 3; omega
theorem and_zero3 (r : Int) (h1 : 1 ≤ r) (h2 : r ≤ 3) : bits .and .i64 r 0 = 0 := by
  rcases (by omega : r = 1 ∨ r = 2 ∨ r = 3) with rfl | rfl | rfl <;> decide +kernel
theorem Made.gone (hM : Made L K) (hK : K.length ≤ 32) {i : Nat} {k : KeyD} (hi : K[i]? = some k) {x : Int} {name nm : ByteArray} (hf : FindPost (without name K) (str k.text) 0 nm x) :
    (k.name ≠ name ∧ x = 0) ∨ (k.name = name ∧ x = 6) := by
  rcases hf with ⟨j, k', hj, he, _, h⟩ | ⟨h, _, hx⟩
  · have hm : k' ∈ without name K := List.mem_of_getElem? hj
    unfold without at hm
    obtain ⟨hm1, hm2⟩ := List.mem_filter.1 hm
    have hn : k'.name ≠ name := by simpa using hm2
    obtain ⟨j', hj'⟩ := List.mem_iff_getElem?.1 hm1
    obtain rfl := hM.inj hK hi hj' he.symm
    rw [hi] at hj'
    cases hj'
    refine .inl ⟨hn, ?_⟩
    obtain ⟨r1, r2⟩ := hM.rights hm1
    rcases h with ⟨_, _, h⟩ | ⟨h, _⟩
    · exact h
    · exact absurd (and_zero3 _ r1 r2) h
  · by_cases hn : k.name = name
    · exact .inr ⟨hn, hx⟩
    · have hm : k ∈ without name K := List.mem_filter.2 ⟨List.mem_of_getElem? hi, by simpa using hn⟩
      obtain ⟨j, hj⟩ := List.mem_iff_getElem?.1 hm
      exact absurd rfl (h j k hj)
theorem Made.keyed (hM : Made L K) (hK : K.length ≤ 32) {i : Nat} {k : KeyD} (hi : K[i]? = some k) :
    ∃ h1 : 2 ≤ k.text.length, k.text.length ≤ 41 ∧ k.text[0]'(by omega) = 33 ∧ ∀ (j : Nat) c, 1 ≤ j → k.text[j]? = some c → keyC c := by
  have hl := (List.getElem?_eq_some_iff.1 hi).1
  obtain ⟨h, wd, _, ⟨⟨l1, l2⟩, hc⟩, rfl⟩ := hM i k hi
  obtain ⟨d1, d2, d3⟩ := dec_small ⟨i, by omega⟩
  have e : (keyT i h).length = (Lib.decDigits i).length + h.length + 2 := by simp [keyT]; omega
  refine ⟨by show 2 ≤ (keyT i h).length; omega, by show (keyT i h).length ≤ 41; simp only at d1; omega, rfl, fun j c hj hjc => ?_⟩
  obtain ⟨j, rfl⟩ : ∃ j', j = j' + 1 := ⟨j - 1, by omega⟩
  have hjc' : (Lib.decDigits i ++ 107 :: h)[j]? = some c := by simpa [keyT] using hjc
  rcases List.mem_append.1 (List.mem_of_getElem? hjc') with hm | hm
  · exact .inr (d3 c hm)
  · rcases List.mem_cons.1 hm with rfl | hm
    · exact .inl (by decide)
    · have := hc c hm
      unfold hexC at this
      unfold keyC
      omega
end
theorem textsV_at (K : List KeyD) (i : Nat) (k : KeyD) (h : K[i]? = some k) : (textsV K)[i]? = some (.string (str k.text)) := by
  simp [textsV, h]
end Go.Proofs.YtfoipadgicjcaaaDoor
