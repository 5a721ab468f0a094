/- Frames, plainly: what is wrapped is unwrapped, and the other way round. -/
import Derived.Test.YtkandepkojfblaaDoorWrap
import Derived.Lib.TrimByte
namespace Go.Proofs.YtkandepkojfblaaDoor

/-- What is behind the text in a frame. -/
def restF (f : List UInt8) (n : Nat) : List UInt8 := (f.take 128).drop (2 + n)
def textF (f : List UInt8) (n : Nat) : List UInt8 := (f.take (2 + n)).drop 2
def badF (op : Bool) (a b : UInt8) (z : List UInt8) : Prop := 1 < a.toNat ∨ 126 < b.toNat ∨ (a.toNat = 1 ∧ b.toNat < 126) ∨ (op = true ∧ b.toNat = 0) ∨ Lib.trimB z 0 ≠ []
instance (op : Bool) (a b : UInt8) (z : List UInt8) : Decidable (badF op a b z) := by unfold badF; infer_instance

/-- The texts of frames. -/
def unw (text : List UInt8) (op : Bool) : List UInt8 → Option (List (List UInt8))
  | [] => if op then none else some []
  | [_] => none
  | a :: b :: t =>
    if badF op a b (restF (a :: b :: t) b.toNat) then none
    else if a.toNat = 1 then unw (text ++ textF (a :: b :: t) b.toNat) true ((a :: b :: t).drop 128)
    else (unw [] false ((a :: b :: t).drop 128)).map ((text ++ textF (a :: b :: t) b.toNat) :: ·)
  termination_by s => s.length
  decreasing_by all_goals (simp; omega)

theorem trim_zeros : ∀ n, Lib.trimB (List.replicate n 0) 0 = []
  | n => by
    unfold Lib.trimB Lib.trimRightB Lib.trimLeftB
    have : ∀ n, (List.replicate n (0 : UInt8)).dropWhile (· == 0) = [] := fun n => by
      induction n with
      | zero => rfl
      | succ n ih => rw [List.replicate_succ, List.dropWhile_cons]; simp [ih]
    rw [List.reverse_replicate, this]; rfl
theorem drop_zeros : ∀ l : List UInt8, l.dropWhile (· == 0) = [] → ∀ c ∈ l, c = 0
  | [], _, c, hc => by simp at hc
  | x :: l, h, c, hc => by
    rw [List.dropWhile_cons] at h
    by_cases hx : x = 0
    · rw [if_pos (by simp [hx])] at h
      rw [List.mem_cons] at hc
      rcases hc with rfl | hc
      · exact hx
      · exact drop_zeros l h c hc
    · rw [if_neg (by simp [hx])] at h; cases h
theorem trim_nil {z : List UInt8} (h : Lib.trimB z 0 = []) : z = List.replicate z.length 0 := by
  have key := drop_zeros
  unfold Lib.trimB Lib.trimRightB Lib.trimLeftB at h
  have h1 := key _ h
  rw [List.eq_replicate_iff]
  refine ⟨rfl, fun c hc => ?_⟩
  by_cases hd : c ∈ (z.reverse.dropWhile (· == 0)).reverse
  · exact h1 c hd
  · -- the last that is kept is none: all are 0
    have hall : z.reverse.dropWhile (· == 0) = [] := by
      cases hq : z.reverse.dropWhile (· == 0) with
      | nil => rfl
      | cons x r =>
        exfalso
        have hx : x ∈ (z.reverse.dropWhile (· == 0)).reverse := by rw [hq]; simp
        have := h1 x hx
        have hn : (z.reverse.dropWhile (· == 0)).head? = some x := by rw [hq]; rfl
        have := List.head?_dropWhile_not (· == (0 : UInt8)) z.reverse
        rw [hn] at this
        simp at this
        exact this (by assumption)
    exact key _ hall c (by simpa using hc)

theorem frame_form (more : Bool) (p r : List UInt8) (hp : p.length ≤ 126) : ∃ a b t, frameOf more p ++ r = a :: b :: t ∧ a.toNat = (if more then 1 else 0) ∧ b.toNat = p.length ∧
    restF (frameOf more p ++ r) b.toNat = List.replicate (126 - p.length) 0 ∧ textF (frameOf more p ++ r) b.toNat = p ∧ (frameOf more p ++ r).drop 128 = r := by
  have hl := frameOf_len (more := more) hp
  have hb : (UInt8.ofNat p.length).toNat = p.length := by rw [UInt8.toNat_ofNat']; omega
  have e1 : frameOf more p = (if more then 1 else 0) :: UInt8.ofNat p.length :: (p ++ List.replicate (126 - p.length) 0) := rfl
  refine ⟨_, _, p ++ List.replicate (126 - p.length) 0 ++ r, by rw [e1]; rfl, by cases more <;> rfl, hb, ?_, ?_, ?_⟩
  · unfold restF
    rw [List.take_left' hl, hb, e1, show 2 + p.length = p.length + 1 + 1 by omega, List.drop_succ_cons, List.drop_succ_cons, List.drop_left' rfl]
  · unfold textF
    rw [hb, e1]
    simp only [List.cons_append, List.append_assoc]
    rw [show 2 + p.length = p.length + 1 + 1 by omega, List.take_succ_cons, List.take_succ_cons, List.drop_succ_cons, List.drop_succ_cons, List.drop_zero, List.take_left' rfl]
  · exact List.drop_left' hl

theorem unw_frame (text : List UInt8) (op more : Bool) (p r : List UInt8) (hp : p.length ≤ 126) (hm : more = true → p.length = 126) (ho : op = true → p ≠ []) :
    unw text op (frameOf more p ++ r) = if more then unw (text ++ p) true r else (unw [] false r).map ((text ++ p) :: ·) := by
  obtain ⟨a, b, t, e, ha, hb, h1, h2, h3⟩ := frame_form more p r hp
  rw [e] at h1 h2 h3 ⊢
  rw [unw, h1, h2, h3]
  have hnb : ¬ badF op a b (List.replicate (126 - p.length) 0) := by
    unfold badF
    rintro (h | h | ⟨h, h'⟩ | ⟨h, h'⟩ | h)
    · rw [ha] at h; cases more <;> simp at h
    · omega
    · cases more
      · rw [ha] at h; simp at h
      · have := hm rfl; omega
    · exact ho h (List.eq_nil_of_length_eq_zero (by omega))
    · exact h (trim_zeros _)
  rw [if_neg hnb]
  cases more
  · rw [if_neg (by rw [ha]; simp)]; rfl
  · rw [if_pos (by rw [ha]; simp)]; rfl
theorem unw_wrap : ∀ (n : Nat) (s text : List UInt8) (op : Bool) (r : List UInt8), s.length ≤ n → (op = true → s ≠ []) → unw text op (wrapL s ++ r) = (unw [] false r).map ((text ++ s) :: ·) := by
  intro n
  induction n with
  | zero =>
    intro s text op r hn ho
    rw [wrapL, dif_pos (by omega), unw_frame text op false s r (by omega) (fun h => by cases h) ho]; rfl
  | succ n ih =>
    intro s text op r hn ho
    rw [wrapL]
    by_cases h : s.length ≤ 126
    · rw [dif_pos h, unw_frame text op false s r h (fun h => by cases h) ho]; rfl
    · have hl : (s.take 126).length = 126 := by rw [List.length_take]; omega
      rw [dif_neg h, List.append_assoc, unw_frame text op true (s.take 126) _ (by omega) (fun _ => hl) (fun _ e => by rw [e] at hl; simp at hl), if_pos rfl, ih _ _ _ _ (by rw [List.length_drop]; omega) (fun _ e => by
        have := congrArg List.length e; rw [List.length_drop] at this; simp at this; omega), List.append_assoc, List.take_append_drop]
theorem unw_wraps : ∀ (l : List (List UInt8)), unw [] false (l.flatMap wrapL) = some l
  | [] => by rw [List.flatMap_nil, unw]; rfl
  | s :: l => by
    rw [List.flatMap_cons, unw_wrap _ s [] false _ (Nat.le_refl _) (fun h => by cases h), unw_wraps l]; rfl

theorem frame_back {op : Bool} {a b : UInt8} {t : List UInt8} (hl : 128 ≤ (a :: b :: t).length) (hb : ¬ badF op a b (restF (a :: b :: t) b.toNat)) :
    ∃ p, textF (a :: b :: t) b.toNat = p ∧ p.length ≤ 126 ∧ (a.toNat = 1 → p.length = 126) ∧ (op = true → p ≠ []) ∧ a :: b :: t = frameOf (decide (a.toNat = 1)) p ++ (a :: b :: t).drop 128 := by
  unfold badF at hb
  have h1 : ¬ 1 < a.toNat := fun h => hb (.inl h)
  have h2 : ¬ 126 < b.toNat := fun h => hb (.inr (.inl h))
  have h3 : ¬ (a.toNat = 1 ∧ b.toNat < 126) := fun h => hb (.inr (.inr (.inl h)))
  have h4 : ¬ (op = true ∧ b.toNat = 0) := fun h => hb (.inr (.inr (.inr (.inl h))))
  have h5 : Lib.trimB (restF (a :: b :: t) b.toNat) 0 = [] := Classical.byContradiction fun h => hb (.inr (.inr (.inr (.inr h))))
  have hz := trim_nil h5
  have htl : t.length = (a :: b :: t).length - 2 := by simp
  have hpl : (textF (a :: b :: t) b.toNat).length = b.toNat := by
    unfold textF; rw [List.length_drop, List.length_take]; omega
  have hrl : (restF (a :: b :: t) b.toNat).length = 126 - b.toNat := by
    unfold restF; rw [List.length_drop, List.length_take]; omega
  rw [hrl] at hz
  refine ⟨_, rfl, by omega, fun h => by omega, fun h e => h4 ⟨h, by rw [e] at hpl; simpa using hpl.symm⟩, ?_⟩
  have e1 : textF (a :: b :: t) b.toNat = t.take b.toNat := by
    unfold textF
    rw [show 2 + b.toNat = b.toNat + 1 + 1 by omega, List.take_succ_cons, List.take_succ_cons, List.drop_succ_cons, List.drop_succ_cons, List.drop_zero]
  have e2 : restF (a :: b :: t) b.toNat = (t.take 126).drop b.toNat := by
    unfold restF
    rw [show (128 : Nat) = 126 + 1 + 1 by omega, List.take_succ_cons, List.take_succ_cons, show 2 + b.toNat = b.toNat + 1 + 1 by omega, List.drop_succ_cons, List.drop_succ_cons]
  have e3 : t.take 126 = t.take b.toNat ++ List.replicate (126 - b.toNat) 0 := by
    rw [← hz, e2, show t.take b.toNat = (t.take 126).take b.toNat by rw [List.take_take, Nat.min_eq_left (by omega)], List.take_append_drop]
  have ea : a = if decide (a.toNat = 1) = true then 1 else 0 := by
    by_cases h : a.toNat = 1
    · rw [if_pos (by simpa using h)]; exact UInt8.toNat_inj.1 h
    · rw [if_neg (by simpa using h)]; exact UInt8.toNat_inj.1 (by simp; omega)
  have eb : UInt8.ofNat (textF (a :: b :: t) b.toNat).length = b := by
    rw [hpl]; apply UInt8.toNat_inj.1; rw [UInt8.toNat_ofNat']; omega
  unfold frameOf
  rw [eb, hpl, ← ea, e1, ← e3, show (128 : Nat) = 126 + 1 + 1 by omega, List.drop_succ_cons, List.drop_succ_cons, List.cons_append, List.cons_append, List.take_append_drop]

theorem unw_back : ∀ (n : Nat) (s text : List UInt8) (op : Bool) (l : List (List UInt8)), s.length ≤ n → s.length % 128 = 0 → unw text op s = some l →
    (op = false → text = [] → s = l.flatMap wrapL) ∧ (op = true → ∃ y rest, l = (text ++ y) :: rest ∧ y ≠ [] ∧ s = wrapL y ++ rest.flatMap wrapL) := by
  intro n
  induction n with
  | zero =>
    intro s text op l hn _ h
    have hs : s = [] := List.eq_nil_of_length_eq_zero (by omega)
    subst hs
    rw [unw] at h
    cases op
    · simp at h; subst h; exact ⟨fun _ _ => rfl, fun h => by cases h⟩
    · simp at h
  | succ n ih =>
    intro s text op l hn hm h
    match s, hn, hm, h with
    | [], _, _, h =>
      rw [unw] at h
      cases op
      · simp at h; subst h; exact ⟨fun _ _ => rfl, fun h => by cases h⟩
      · simp at h
    | [x], _, hm, _ => simp at hm
    | a :: b :: t, hn, hm, h =>
      have hl : 128 ≤ (a :: b :: t).length := by simp at hm ⊢; omega
      rw [unw] at h
      by_cases hbad : badF op a b (restF (a :: b :: t) b.toNat)
      · rw [if_pos hbad] at h; cases h
      · rw [if_neg hbad] at h
        obtain ⟨p, ep, hp1, hp2, hp3, hf⟩ := frame_back hl hbad
        rw [ep] at h
        have hrl : ((a :: b :: t).drop 128).length ≤ n := by rw [List.length_drop]; omega
        have hrm : ((a :: b :: t).drop 128).length % 128 = 0 := by rw [List.length_drop]; omega
        generalize (a :: b :: t).drop 128 = r at *
        generalize a :: b :: t = s at *
        by_cases ha : a.toNat = 1
        · rw [if_pos ha] at h
          obtain ⟨y, rest, rfl, hy, hr⟩ := (ih r (text ++ p) true l hrl hrm h).2 rfl
          have hpl := hp2 ha
          have hw : wrapL (p ++ y) = frameOf true p ++ wrapL y := by
            have hyl : 0 < y.length := List.length_pos_iff.2 hy
            rw [wrapL, dif_neg (by rw [List.length_append]; omega), List.take_left' hpl, List.drop_left' hpl]
          have hda : decide (a.toNat = 1) = true := decide_eq_true ha
          rw [hda] at hf
          refine ⟨fun ho ht => ?_, fun ho => ⟨p ++ y, rest, by rw [List.append_assoc], by simp [hy], ?_⟩⟩
          · subst ht
            rw [List.nil_append, List.flatMap_cons, hw, hf, hr, List.append_assoc]
          · rw [hw, hf, hr, List.append_assoc]
        · rw [if_neg ha] at h
          obtain ⟨l', hl', rfl⟩ := Option.map_eq_some_iff.1 h
          have hr := (ih r [] false l' hrl hrm hl').1 rfl rfl
          have hda : decide (a.toNat = 1) = false := decide_eq_false ha
          rw [hda] at hf
          have hw : wrapL p = frameOf false p := by rw [wrapL, dif_pos hp1]
          refine ⟨fun ho ht => ?_, fun ho => ⟨p, l', rfl, hp3 ho, ?_⟩⟩
          · subst ht
            rw [List.nil_append, List.flatMap_cons, hw, ← hr]; exact hf
          · rw [hw, ← hr]; exact hf
end Go.Proofs.YtkandepkojfblaaDoor
