/- played: what lies in memory from round to round, and what it means. -/
import Derived.Test.YtfoipadgicjcaaaAlId
import Derived.Test.YtfoipadgicjcaaaAlBegun
import Derived.Test.YtfoipadgicjcaaaArRecall
namespace Go.Proofs.Ytfoipadgicjcaaa
open Go.RowKit

abbrev DT := 44
/-- What lies in memory ahead of a round. -/
structure AlB (W wx : World) (p : Nat) (R : ArR) (S : ArS) (mb : Nat) (sv : Nat → Value) (M : Nat → List Int) (tv : Value) (told : List Int) : Prop where
  arm : ArM wx p R S
  made : MadeM wx mb sv M
  told : Sl wx IT 1 tv told.length (intsV told)
  sep : ∀ b, OwnMd mb sv b → ¬ Own p R b
  tsep : ∀ b, sblk tv = some b → ¬ Own p R b ∧ ¬ OwnMd mb sv b
  mlt : ∀ b, OwnMd mb sv b → W.heap.size ≤ b
  own : ∀ b, Own p R b → W.heap.size ≤ b
  tlt : ∀ b, sblk tv = some b → W.heap.size ≤ b
  below : Below W.heap.size W wx
section
variable {W wx w1 w' : World} {p : Nat} {R R' : ArR} {S S' : ArS} {mb : Nat} {sv : Nat → Value} {M : Nat → List Int} {tv : Value} {told : List Int}
theorem AlB.still (h : AlB W wx p R S mb sv M tv told) (hm : Mod (fun _ => False) wx w1) : AlB W w1 p R S mb sv M tv told :=
  ⟨h.arm.keep hm fun _ _ hf => hf, h.made.keep hm fun _ _ hf => hf, h.told.mod hm fun _ _ hf => hf, h.sep, h.tsep, h.mlt, h.own, h.tlt, h.below.trans (hm.below h.below.size fun _ _ hf => hf)⟩
theorem AlB.step (h : AlB W wx p R S mb sv M tv told) (hs : Step p R R' wx w') (ha : ArM w' p R' S') : AlB W w' p R' S' mb sv M tv told := by
  have hW := h.below.size
  refine ⟨ha, h.made.keep hs.mod h.sep, h.told.mod hs.mod fun b hb => (h.tsep b hb).1, fun b hb ho => ?_, fun b hb => ⟨fun ho => ?_, (h.tsep b hb).2⟩, h.mlt, fun b ho => ?_, h.tlt, h.below.trans (hs.mod.below hW fun b hb ho => absurd (h.own b ho) (by omega))⟩
  · rcases hs.own b ho with h1 | h1
    · exact h.sep b hb h1
    · have := h.made.lt hb; omega
  · rcases hs.own b ho with h1 | h1
    · exact (h.tsep b hb).1 h1
    · have := (h.told.lt hb).1; omega
  · rcases hs.own b ho with h1 | h1
    · exact h.own b h1
    · omega
/-- What one tenant made is another list. -/
theorem AlB.put (h : AlB W wx p R S mb sv M tv told) {t : Nat} (ht : t < 4) {v' : Value} {l : List Int} (hm : Mod (fun b => sblk (sv t) = some b) wx w1) (hs : Sl w1 IT 1 v' l.length (intsV l)) (hn : sblk v' = none ∨ sblk v' = sblk (sv t) ∨ ∃ q, sblk v' = some q ∧ wx.heap.size ≤ q) :
    w1.cell? ⟨mb, t, none⟩ = some (sv t) ∧ w1.frozen? ⟨mb, t, none⟩ = false ∧ AlB W (w1.setCell ⟨mb, t, none⟩ v') p R S mb (upd sv t v') (upd M t l) tv told := by
  obtain ⟨m1, m2, m3, m4, m5⟩ := h.made.put ht hm hs hn
  have hW := h.below.size
  refine ⟨m4, m5, h.arm.keep m2 fun b ho hb => h.sep b hb ho, m1, h.told.mod m2 fun b hb ho => (h.tsep b hb).2 ho, fun b hb ho => ?_, fun b hb => ⟨(h.tsep b hb).1, fun ho => ?_⟩, fun b hb => ?_, h.own, h.tlt, h.below.trans (m2.below hW fun b hb ho => absurd (h.mlt b ho) (by omega))⟩
  · rcases m3 b hb with h1 | h1
    · exact h.sep b h1 ho
    · have := h.arm.own_lt ho; omega
  · rcases m3 b ho with h1 | h1
    · exact (h.tsep b hb).2 h1
    · have := (h.told.lt hb).1; omega
  · rcases m3 b hb with h1 | h1
    · exact h.mlt b h1
    · omega
theorem AlB.appEnd (h : AlB W wx p R S mb sv M tv told) {t tb : Nat} (ht : t < 4) {v v' : Value} {ob : Obj} {x : Int} {n m : Nat} (hv : sv t = v) (hb : Blk wx tb IT #[.int .i64 t]) (hne : ∀ b, OwnMd mb sv b → b ≠ tb) (hm : Mod (fun b => sblk v = some b) (wx.alloc ob) w1) (hs : Sl w1 IT 1 v' n (intsV (M t) ++ [.int .i64 x])) (hlen : (M t).length = m) (hn1 : n = m + 1)
    (hn : sblk v' = sblk v ∨ sblk v' = some (wx.alloc ob).heap.size ∧ (wx.alloc ob).heap.size < w1.heap.size) :
    w1.cell? ⟨mb, t, none⟩ = some v ∧ w1.frozen? ⟨mb, t, none⟩ = false ∧ w1.cell? ⟨tb, 0, none⟩ = some (.int .i64 t) ∧ Blk (w1.setCell ⟨mb, t, none⟩ v') tb IT #[.int .i64 t] ∧ AlB W (w1.setCell ⟨mb, t, none⟩ v') p R S mb (upd sv t v') (upd M t (M t ++ [x])) tv told := by
  subst hv
  subst hlen
  subst hn1
  have hs2 : Sl w1 IT 1 v' (M t ++ [x]).length (intsV (M t ++ [x])) := by
    have e : intsV (M t ++ [x]) = intsV (M t) ++ [.int .i64 x] := by simp [intsV]
    rw [e, List.length_append]; exact hs
  obtain ⟨h1, h2, h3⟩ := (h.still ((Mod.refl _ _).alloc ob)).put ht hm hs2 (.inr (hn.imp id fun e => ⟨_, e.1, Nat.le_refl _⟩))
  have hb1 : Blk w1 tb IT #[.int .i64 t] := (hb.alloc ob).mod hm fun e => hne tb (.inr ⟨t, ht, e⟩) rfl
  exact ⟨h1, h2, hb1.cellS rfl, hb1.far (p := ⟨mb, t, none⟩) (fun e => hne mb (.inl rfl) e.symm) _, h3⟩
theorem Blk.appd {db : Nat} {cs : Array Value} (hd : Blk wx db DT cs) (hmd : MadeM wx mb sv M) {t : Nat} (ht : t < 4) {v : Value} {ob : Obj} (hv : sv t = v) (hne : ∀ b, OwnMd mb sv b → b ≠ db) (hm : Mod (fun b => sblk v = some b) (wx.alloc ob) w1) (v' : Value) : Blk (w1.setCell ⟨mb, t, none⟩ v') db DT cs := by
  subst hv
  exact ((hd.alloc ob).mod hm fun e => hne db (.inr ⟨t, ht, e⟩) rfl).far (p := ⟨mb, t, none⟩) (fun e => hne mb (.inl rfl) e.symm) _
/-- One is told more. -/
theorem AlB.tell (h : AlB W wx p R S mb sv M tv told) {tv' : Value} {news : List Int} (hm : Mod (fun b => sblk tv = some b) wx w1) (hs : Sl w1 IT 1 tv' (told ++ news).length (intsV (told ++ news))) (hn : sblk tv' = sblk tv ∨ ∃ q, sblk tv' = some q ∧ wx.heap.size ≤ q) : AlB W w1 p R S mb sv M tv' (told ++ news) := by
  have hW := h.below.size
  refine ⟨h.arm.keep hm fun b ho hb => (h.tsep b hb).1 ho, h.made.keep hm fun b ho hb => (h.tsep b hb).2 ho, hs, h.sep, fun b hb => ?_, h.mlt, h.own, fun b hb => ?_, h.below.trans (hm.below hW fun b hb ho => absurd (h.tlt b ho) (by omega))⟩
  · rcases hn with h1 | ⟨q, h1, h2⟩
    · exact h.tsep b (by rw [← h1]; exact hb)
    · rw [h1] at hb
      have := Option.some.inj hb
      subst this
      exact ⟨fun ho => by have := h.arm.own_lt ho; omega, fun ho => by have := h.made.lt ho; omega⟩
  · rcases hn with h1 | ⟨q, h1, h2⟩
    · exact h.tlt b (by rw [← h1]; exact hb)
    · rw [h1] at hb
      have := Option.some.inj hb
      omega
end
theorem aState_len (f : Nat → DeedD) (me : Nat) : ∀ i, (aState f me i).2.length ≤ 3 * i
  | 0 => Nat.le_refl 0
  | i + 1 => by
    have := aState_len f me i
    simp only [aState]
    split
    · simp; omega
    · omega
theorem AlB.tellEnd {W wx w1 : World} {p : Nat} {R : ArR} {S : ArS} {mb : Nat} {sv : Nat → Value} {M : Nat → List Int} {tv tv' : Value} {told : List Int} {ob : Obj} {x y z : Int} {n db tb : Nat} {cs ct : Array Value} {u v : Value}
    (h : AlB W wx p R S mb sv M tv told) (hD : Blk wx db DT cs) (hT : Blk wx tb IT ct) (hu : cs[0]? = some u) (hv : ct[0]? = some v) (h1 : ∀ b, sblk tv = some b → b ≠ db) (h2 : ∀ b, sblk tv = some b → b ≠ tb)
    (hm : Mod (fun b => sblk tv = some b) (wx.alloc ob) w1) (hs : Sl w1 IT 1 tv' n (intsV told ++ [.int .i64 x, .int .i64 y, .int .i64 z])) (hn : n = told.length + 3)
    (hd : sblk tv' = sblk tv ∨ sblk tv' = some (wx.alloc ob).heap.size ∧ (wx.alloc ob).heap.size < w1.heap.size) :
    w1.cell? ⟨db, 0, none⟩ = some u ∧ w1.cell? ⟨tb, 0, none⟩ = some v ∧ AlB W w1 p R S mb sv M tv' (told ++ [x, y, z]) := by
  subst hn
  have g1 := (hD.alloc ob).mod hm fun e => h1 _ e rfl
  have g2 := (hT.alloc ob).mod hm fun e => h2 _ e rfl
  refine ⟨g1.cellS hu, g2.cellS hv, (h.still ((Mod.refl _ _).alloc ob)).tell hm ?_ (hd.imp id fun e => ⟨_, e.1, Nat.le_refl _⟩)⟩
  have e : intsV (told ++ [x, y, z]) = intsV told ++ [.int .i64 x, .int .i64 y, .int .i64 z] := by simp [intsV]
  rw [e, List.length_append]; exact hs
/-- Where the tenants are behind i deeds: the others only if all is true. -/
def TT (f : Nat → DeedD) (me : Nat) (all : Bool) (i t : Nat) : AS := if all = true ∨ t = me then (aState f t i).1 else AS.none
theorem TT_skip {f : Nat → DeedD} {me i t : Nat} {all : Bool} (ht : (f i).tenant % 4 = (t : Int)) (hno : ¬ (all = true ∨ t = me)) : TT f me all (i + 1) = TT f me all i ∧ (aState f me (i + 1)).2 = (aState f me i).2 := by
  have hne : ∀ u, (all = true ∨ u = me) → (aState f u (i + 1)) = aState f u i := fun u hu => by
    have : ¬ ((f i).tenant % 4 = (u : Int)) := fun e => by
      have : u = t := by omega
      subst this; exact hno hu
    simp only [aState]; rw [if_neg this]
  refine ⟨funext fun u => ?_, by rw [hne me (.inr rfl)]⟩
  unfold TT
  by_cases hu : all = true ∨ u = me
  · rw [if_pos hu, if_pos hu, hne u hu]
  · rw [if_neg hu, if_neg hu]
theorem TT_step {f : Nat → DeedD} {me i t : Nat} {all : Bool} (ht : (f i).tenant % 4 = (t : Int)) (hyes : all = true ∨ t = me) : TT f me all (i + 1) = upd (TT f me all i) t (aStep (TT f me all i t) t (f i)).1 := by
  funext u
  have h1 : TT f me all i t = (aState f t i).1 := by unfold TT; rw [if_pos hyes]
  rw [h1]
  unfold upd
  by_cases hu : u = t
  · subst hu
    rw [if_pos rfl]
    unfold TT
    rw [if_pos hyes]
    simp only [aState]; rw [if_pos ht]
  · rw [if_neg hu]
    unfold TT
    have : ¬ ((f i).tenant % 4 = (u : Int)) := fun e => hu (by omega)
    have e : aState f u (i + 1) = aState f u i := by simp only [aState]; rw [if_neg this]
    rw [e]
theorem told_me {f : Nat → DeedD} {me i : Nat} {all : Bool} (ht : (f i).tenant % 4 = (me : Int)) : (aState f me (i + 1)).2 = (aState f me i).2 ++ [(f i).kind, (aStep (TT f me all i me) me (f i)).2, ((aStep (TT f me all i me) me (f i)).1.ab.have_.length : Int)] := by
  have h1 : TT f me all i me = (aState f me i).1 := by unfold TT; rw [if_pos (.inr rfl)]
  rw [h1]; simp only [aState]; rw [if_pos ht]
theorem told_other {f : Nat → DeedD} {me i t : Nat} (ht : (f i).tenant % 4 = (t : Int)) (hne : t ≠ me) : (aState f me (i + 1)).2 = (aState f me i).2 := by
  have : ¬ ((f i).tenant % 4 = (me : Int)) := fun e => hne (by omega)
  simp only [aState]; rw [if_neg this]
section
variable (s : AS) (t : Nat) (k a0 a1 a2 a3 : Int)
theorem aK1 : aStepK s t 1 a0 a1 a2 a3 = aJoin s (aPick s.made a0) (aPick s.made a1) (aPick s.made a2) (aPick s.made a3) := by unfold aStepK; rw [if_pos rfl]
theorem aK2 : aStepK s t 2 a0 a1 a2 a3 = aNote s t (aPick s.made a0) (a1 % 3) := by unfold aStepK; rw [if_neg (by decide), if_pos rfl]
theorem aK3 : aStepK s t 3 a0 a1 a2 a3 = (⟨⟨s.ab.have_, []⟩, s.made⟩, -1) := by unfold aStepK; rw [if_neg (by decide), if_neg (by decide), if_pos rfl]
theorem aK4 : aStepK s t 4 a0 a1 a2 a3 = aUndo s := by unfold aStepK; rw [if_neg (by decide), if_neg (by decide), if_neg (by decide), if_pos rfl]
theorem aK5 : aStepK s t 5 a0 a1 a2 a3 = aClean s (aPick s.made a0) := by unfold aStepK; rw [if_neg (by decide), if_neg (by decide), if_neg (by decide), if_neg (by decide), if_pos rfl]
theorem aK6 : aStepK s t 6 a0 a1 a2 a3 = (s, if Thing.note (aPick s.made a0) t (a1 % 3) ∈ s.ab.have_ then 1 else -1) := by unfold aStepK; rw [if_neg (by decide), if_neg (by decide), if_neg (by decide), if_neg (by decide), if_neg (by decide), if_pos rfl]
theorem aKo (h1 : ¬ k = 1) (h2 : ¬ k = 2) (h3 : ¬ k = 3) (h4 : ¬ k = 4) (h5 : ¬ k = 5) (h6 : ¬ k = 6) : aStepK s t k a0 a1 a2 a3 = (s, -1) := by unfold aStepK; rw [if_neg h1, if_neg h2, if_neg h3, if_neg h4, if_neg h5, if_neg h6]
end
/-- The arena, what the tenants made, what they are; and how long their lists are at most. -/
structure AlR (S : ArS) (M : Nat → List Int) (T : Nat → AS) (i : Nat) : Prop where
  rel : RelP S M T i
  mlen : ∀ t, t < 4 → (M t).length ≤ i
  alen : ∀ t, t < 4 → (S.added t).length ≤ i
section
variable {S S' : ArS} {M : Nat → List Int} {T : Nat → AS} {i t : Nat}
theorem gainS_added (S : ArS) (t j u : Nat) : ((gainS S t j).added u).length ≤ (S.added u).length + 1 := by
  unfold gainS
  split
  · show (upd S.added t (S.added t ++ [(j : Int)]) u).length ≤ _
    by_cases hu : u = t
    · subst hu; rw [upd_same]; simp
    · rw [upd_ne _ _ hu]; omega
  · omega
theorem give_added (hI : Inv S) {k : KeyA} {lv va r x : Int} (h : GiveR S t k lv va r x S') (u : Nat) : (S'.added u).length ≤ (S.added u).length + 1 := by
  cases h with
  | has => omega
  | much => omega
  | joins j e => exact gainS_added S t j u
  | full S0 n _ _ _ hs => rw [(sweep_keeps hI hs).2.2.1]; omega
  | makes S0 S1 j _ _ hs _ ht2 =>
    have e0 : S0.added = S.added := by
      rcases hs with ⟨_, rfl⟩ | ⟨_, n, hs⟩
      · rfl
      · exact (sweep_keeps hI hs).2.2.1
    have := gainS_added (newS S1 j k lv va) t j u
    have e1 : (newS S1 j k lv va).added = S.added := ht2.keeps.2.2.2.2.2.1.trans e0
    rw [e1] at this; exact this
theorem AlR.more (h : AlR S M T i) : AlR S M T (i + 1) := ⟨h.rel.more, fun t ht => Nat.le_succ_of_le (h.mlen t ht), fun t ht => Nat.le_succ_of_le (h.alen t ht)⟩
theorem AlR.join (h : AlR S M T i) (ht : t < 4) (hi : i ≤ 1000) {a0 a1 a2 a3 r x : Int} (hj : JoinR S t (pickId (M t) a0) (pickId (M t) a1) (pickId (M t) a2) (pickId (M t) a3) r x S') :
    x = (aJoin (T t) (aPick (T t).made a0) (aPick (T t).made a1) (aPick (T t).made a2) (aPick (T t).made a3)).2 ∧ AlR S' (upd M t (if x = 0 then M t ++ [r] else M t)) (upd T t (aJoin (T t) (aPick (T t).made a0) (aPick (T t).made a1) (aPick (T t).made a2) (aPick (T t).made a3)).1) (i + 1) ∧ (x = 0 → i64r r) := by
  have p0 := h.rel.pick ht a0
  have p1 := h.rel.pick ht a1
  have p2 := h.rel.pick ht a2
  have p3 := h.rel.pick ht a3
  obtain ⟨h1, h2, h3⟩ := h.rel.join ht hi p0.1 p1.1 p2.1 p3.1 p0.2 p1.2 p2.2 p3.2 hj
  refine ⟨h1, ⟨h2, fun u hu => ?_, fun u hu => ?_⟩, h3⟩
  · have := h.mlen u hu
    by_cases hut : u = t
    · subst hut; rw [upd_same]; split
      · simp; omega
      · omega
    · rw [upd_ne _ _ hut]; omega
  · have := h.alen u hu
    cases hj with
    | none => omega
    | level => omega
    | gives r x S' _ _ _ hg => have := give_added h.rel.inv.1 hg u; omega
theorem AlR.note (h : AlR S M T i) (ht : t < 4) (hi : i ≤ 1000) {a0 j x : Int} (hj : i64r j) (hn : NoteR S t (pickId (M t) a0) t j (pickId (M t) a0) x S') :
    x = (aNote (T t) t (aPick (T t).made a0) j).2 ∧ AlR S' M (upd T t (aNote (T t) t (aPick (T t).made a0) j).1) (i + 1) := by
  have p0 := h.rel.pick ht a0
  obtain ⟨h1, h2⟩ := h.rel.note ht hi hj p0.1 p0.2 hn
  refine ⟨h1, h2, fun u hu => Nat.le_succ_of_le (h.mlen u hu), fun u hu => ?_⟩
  have := h.alen u hu
  cases hn with
  | none => omega
  | twice => omega
  | gives id x S' _ _ _ hg => have := give_added h.rel.inv.1 hg u; omega
theorem AlR.keeps (h : AlR S M T i) {T' : Nat → AS} (hr : RelP S' (upd M t ((M t).filter fun id => ownsB S' t id 0)) T' (i + 1)) (ha : S'.added = upd S.added t []) : AlR S' (upd M t ((M t).filter fun id => ownsB S' t id 0)) T' (i + 1) := by
  refine ⟨hr, fun u hu => ?_, fun u hu => ?_⟩
  · have := h.mlen u hu
    by_cases hut : u = t
    · subst hut; rw [upd_same]; have := List.length_filter_le (fun id => ownsB S' u id 0) (M u); omega
    · rw [upd_ne _ _ hut]; omega
  · have := h.alen u hu
    rw [ha]
    by_cases hut : u = t
    · subst hut; rw [upd_same]; exact Nat.zero_le _
    · rw [upd_ne _ _ hut]; omega
theorem AlR.undo (h : AlR S M T i) (ht : t < 4) : AlR (undoS S t) (upd M t ((M t).filter fun id => ownsB (undoS S t) t id 0)) (upd T t (aUndo (T t)).1) (i + 1) ∧ S.count t - (undoS S t).count t = (aUndo (T t)).2 := by
  obtain ⟨h1, h2⟩ := h.rel.undo ht
  exact ⟨h.keeps h1 rfl, h2⟩
theorem AlR.clean (h : AlR S M T i) (ht : t < 4) {a0 : Int} (hc : CleanR S t [pickId (M t) a0] S') : AlR S' (upd M t ((M t).filter fun id => ownsB S' t id 0)) (upd T t (aClean (T t) (aPick (T t).made a0)).1) (i + 1) ∧ S.count t - S'.count t = (aClean (T t) (aPick (T t).made a0)).2 := by
  have p0 := h.rel.pick ht a0
  obtain ⟨h1, h2⟩ := h.rel.clean ht p0.1 p0.2 hc
  refine ⟨h.keeps h1 ?_, h2⟩
  obtain ⟨L, _, _, rfl⟩ := hc
  rfl
theorem AlR.mark (h : AlR S M T i) (ht : t < 4) : AlR { S with added := upd S.added t [] } M (upd T t ⟨⟨(T t).ab.have_, []⟩, (T t).made⟩) (i + 1) := by
  refine ⟨h.rel.mark ht, fun u hu => Nat.le_succ_of_le (h.mlen u hu), fun u hu => ?_⟩
  have := h.alen u hu
  show (upd S.added t [] u).length ≤ _
  by_cases hut : u = t
  · subst hut; rw [upd_same]; exact Nat.zero_le _
  · rw [upd_ne _ _ hut]; omega
theorem AlR.sweep (h : AlR S M T i) {n : Nat} (hs : SweepR S S' n) : AlR S' M T (i + 1) :=
  ⟨h.rel.sweep hs, fun u hu => Nat.le_succ_of_le (h.mlen u hu), fun u hu => by rw [(sweep_keeps h.rel.inv.1 hs).2.2.1]; exact Nat.le_succ_of_le (h.alen u hu)⟩
theorem AlR.same (h : AlR S M T i) : AlR S M (upd T t (T t)) (i + 1) := by rw [upd_id]; exact h.more
theorem AlR.start {f : Nat → DeedD} {me : Nat} {all : Bool} {qu : Nat → Int} (hrel : ∃ A, Rel S A ∧ ∀ t, t < 4 → A t = ⟨[], []⟩) (hro : S.room = 200000) (hli : S.live ≤ 1) (had : ∀ t, t < 4 → S.added t = []) (hq : ∀ k, k < 4 → qu k = 30) : AlR { S with quota := qu } (fun _ => []) (TT f me all 0) 0 := by
  obtain ⟨A, hA, hA0⟩ := hrel
  have e : ∀ t, TT f me all 0 t = AS.none := fun t => by unfold TT; split <;> rfl
  refine ⟨⟨⟨A, hA.quota qu, fun t ht => by rw [e t]; exact hA0 t ht⟩, fun t ht => by rw [e t]; exact .nil, fun t ht x hx => (by rw [e t] at hx; cases hx), hq, hro, by show S.live ≤ _; omega⟩, fun _ _ => Nat.le_refl 0, fun t ht => by show (S.added t).length ≤ 0; rw [had t ht]; exact Nat.le_refl 0⟩
end
end Go.Proofs.Ytfoipadgicjcaaa
