/- rle: what is written of cells, in plain words. No program is named here. -/
import Derived.Test.YtlcjadgaommfmaaDoorRlP
import Derived.Lib.Strings
import Derived.Lib.IndexMore
namespace Go.Proofs.YtlcjadgaommfmaaDoor
open Go.Lib

def ltR (a b : Int × Int) : Prop := a.2 < b.2 ∨ a.2 = b.2 ∧ a.1 < b.1
/-- How many cells behind c go on with its row. -/
def runN : Int × Int → List (Int × Int) → Nat
  | _, [] => 0
  | c, d :: r => if d = (c.1 + 1, c.2) then runN d r + 1 else 0
theorem rowC_succ (x y : Int) (n : Nat) : rowC x y (n + 1) = (x, y) :: rowC (x + 1) y n := by
  unfold rowC
  rw [List.range_succ_eq_map, List.map_cons, List.map_map]
  congr 1
  · simp
  · apply List.map_congr_left
    intro i _
    simp only [Function.comp]
    congr 1
    omega
theorem rowC_len (x y : Int) (n : Nat) : (rowC x y n).length = n := by simp [rowC]
theorem rowC_last (x y : Int) (n : Nat) : (x + n, y) ∈ rowC x y (n + 1) := by
  unfold rowC
  exact List.mem_map.2 ⟨n, List.mem_range.2 (by omega), rfl⟩
theorem run_split : ∀ (c : Int × Int) (r : List (Int × Int)), c :: r = rowC c.1 c.2 (runN c r + 1) ++ r.drop (runN c r) ∧ runN c r ≤ r.length
  | c, [] => by
    refine ⟨?_, Nat.zero_le _⟩
    rw [runN, rowC_succ]; rfl
  | c, d :: r => by
    obtain ⟨h1, h2⟩ := run_split d r
    rw [runN]
    split
    · rename_i hd
      refine ⟨?_, by rw [List.length_cons]; omega⟩
      rw [rowC_succ, List.drop_succ_cons, List.cons_append]
      have e1 : c.1 + 1 = d.1 := by rw [hd]
      have e2 : c.2 = d.2 := by rw [hd]
      rw [e1, e2, ← h1]
      rw [← e2]
    · refine ⟨?_, Nat.zero_le _⟩
      rw [rowC_succ]; rfl
/-- The pieces of cells in order, from a place on. -/
def piecesF : Nat → Int → List (Int × Int) → Int → Int → List (Nat × UInt8)
  | 0, _, _, _, _ => []
  | _ + 1, _, [], _, _ => []
  | f + 1, X0, c :: r, x, y => (if y < c.2 then [((c.2 - y).toNat, 36)] else []) ++ (((c.1 - (if y < c.2 then X0 else x)).toNat, 98) :: (runN c r + 1, 111) :: piecesF f X0 (r.drop (runN c r)) (c.1 + (runN c r + 1 : Nat)) c.2)
theorem runP_skip (w h : Int) (p : Nat × UInt8) (ps : List (Nat × UInt8)) (x y : Int) (out : List (Int × Int)) (h0 : p.1 = 0) : runP w h (p :: ps) x y out = runP w h ps x y out := by rw [runP, if_pos h0]
theorem runP_down (w h : Int) (n : Nat) (ps : List (Nat × UInt8)) (x y : Int) (out : List (Int × Int)) (h0 : n ≠ 0) : runP w h ((n, 36) :: ps) x y out = runP w h ps 0 (min (y + n) coordM) out := by
  rw [runP, if_neg h0]; rfl
theorem runP_blank (w h : Int) (n : Nat) (ps : List (Nat × UInt8)) (x y : Int) (out : List (Int × Int)) (hx : x + n ≤ coordM) : runP w h ((n, 98) :: ps) x y out = runP w h ps (x + n) y out := by
  by_cases h0 : n = 0
  · subst h0
    rw [runP_skip w h _ ps x y out rfl]
    simp
  · rw [runP, if_neg h0]
    show runP w h ps (min (x + n) coordM) y out = _
    rw [Int.min_eq_left hx]
theorem runP_live (w h : Int) (n : Nat) (ps : List (Nat × UInt8)) (x y : Int) (out : List (Int × Int)) (h0 : n ≠ 0) (hx : x + n ≤ coordM) (hy : y < h) (hw : x + n ≤ w) (ho : out.length + n ≤ 4096) :
    runP w h ((n, 111) :: ps) x y out = runP w h ps (x + n) y (out ++ rowC x y n) := by
  rw [runP, if_neg h0]
  show (if h ≤ y ∨ w - x < n then _ else if 4096 < out.length + n then _ else runP w h ps (min (x + n) coordM) y (out ++ rowC x y n)) = _
  rw [if_neg (by omega), if_neg (by omega), Int.min_eq_left hx]
theorem rowC_shift (x y dx dy : Int) (n : Nat) : (rowC x y n).map (fun c => (c.1 - dx, c.2 - dy)) = rowC (x - dx) (y - dy) n := by
  unfold rowC
  rw [List.map_map]
  apply List.map_congr_left
  intro i _
  simp only [Function.comp]
  congr 1
  omega
theorem run_pieces : ∀ (f : Nat) (X0 Y0 W H : Int) (l : List (Int × Int)) (x y : Int) (out : List (Int × Int)), l.length ≤ f → l.Pairwise ltR →
    (∀ c ∈ l, (X0 ≤ c.1 ∧ c.1 - X0 < W) ∧ (Y0 ≤ c.2 ∧ c.2 - Y0 < H)) → (∀ c ∈ l, y < c.2 ∨ y = c.2 ∧ x ≤ c.1) → X0 ≤ x → Y0 ≤ y → W ≤ coordM → H ≤ coordM → out.length + l.length ≤ 4096 →
    runP W H (piecesF f X0 l x y) (x - X0) (y - Y0) out = (out ++ l.map (fun c => (c.1 - X0, c.2 - Y0)), 0)
  | 0, X0, Y0, W, H, l, x, y, out, hl, _, _, _, _, _, _, _, _ => by
    have : l = [] := List.eq_nil_of_length_eq_zero (by omega)
    subst this
    simp [piecesF, runP]
  | f + 1, X0, Y0, W, H, [], x, y, out, _, _, _, _, _, _, _, _, _ => by simp [piecesF, runP]
  | f + 1, X0, Y0, W, H, c :: r, x, y, out, hl, hp, hin, hpos, hx, hy, hW, hH, hout => by
    obtain ⟨hs, hrl⟩ := run_split c r
    have hc := hin c List.mem_cons_self
    have hpc := hpos c List.mem_cons_self
    generalize hn : runN c r = n at hs hrl
    -- the last cell of the run
    have hlast : (c.1 + n, c.2) ∈ c :: r := by rw [hs]; exact List.mem_append_left _ (rowC_last c.1 c.2 n)
    have hlb := (hin _ hlast).1
    dsimp only at hlb
    have hpw := hp
    rw [hs, List.pairwise_append] at hpw
    obtain ⟨_, hpw2, hpw3⟩ := hpw
    have hlen : (c :: r).length = n + 1 + (r.drop n).length := by
      have := congrArg List.length hs
      rw [List.length_append, rowC_len] at this; exact this
    have ih := run_pieces f X0 Y0 W H (r.drop n) (c.1 + (n + 1 : Nat)) c.2 (out ++ rowC (c.1 - X0) (c.2 - Y0) (n + 1))
      (by rw [List.length_cons] at hl; rw [List.length_drop]; omega) hpw2 (fun d hd => hin d (List.mem_cons_of_mem _ (List.mem_of_mem_drop hd)))
      (fun d hd => by
        have h := hpw3 (c.1 + n, c.2) (rowC_last c.1 c.2 n) d hd
        unfold ltR at h
        dsimp only at h
        rcases h with h | ⟨h1, h2⟩
        · exact .inl h
        · exact .inr ⟨h1, by omega⟩)
      (by omega) hc.2.1 hW hH (by rw [List.length_append, rowC_len]; omega)
    have hres : out ++ rowC (c.1 - X0) (c.2 - Y0) (n + 1) ++ (r.drop n).map (fun c => (c.1 - X0, c.2 - Y0)) = out ++ (c :: r).map (fun c => (c.1 - X0, c.2 - Y0)) := by
      rw [hs, List.map_append, rowC_shift, List.append_assoc]
    rw [hres] at ih
    rw [piecesF, hn]
    by_cases hyc : y < c.2
    · rw [if_pos hyc, if_pos hyc, List.singleton_append]
      rw [runP_down W H _ _ _ _ _ (by omega)]
      rw [show min (y - Y0 + ((c.2 - y).toNat : Int)) coordM = c.2 - Y0 by rw [Int.min_eq_left (by omega)]; omega]
      rw [runP_blank W H _ _ _ _ _ (by omega)]
      rw [show (0 : Int) + ((c.1 - X0).toNat : Int) = c.1 - X0 by omega]
      rw [runP_live W H _ _ _ _ _ (by omega) (by omega) (by omega) (by omega) (by omega)]
      rw [show c.1 - X0 + ((n + 1 : Nat) : Int) = c.1 + ((n + 1 : Nat) : Int) - X0 by omega]
      exact ih
    · rw [if_neg hyc, if_neg hyc, List.nil_append]
      have hyq : y = c.2 ∧ x ≤ c.1 := by
        rcases hpc with h | h
        · exact absurd h hyc
        · exact h
      obtain ⟨hy2, hx2⟩ := hyq
      subst hy2
      rw [runP_blank W H _ _ _ _ _ (by omega)]
      rw [show x - X0 + ((c.1 - x).toNat : Int) = c.1 - X0 by omega]
      rw [runP_live W H _ _ _ _ _ (by omega) (by omega) (by omega) (by omega) (by omega)]
      rw [show c.1 - X0 + ((n + 1 : Nat) : Int) = c.1 + ((n + 1 : Nat) : Int) - X0 by omega]
      exact ih
/-- Every piece is of the right kind, and short. -/
theorem pieces_fit : ∀ (f : Nat) (X0 Y0 : Int) (l : List (Int × Int)) (x y : Int) (B : Nat), (∀ c ∈ l, (X0 ≤ c.1 ∧ c.1 - X0 < B) ∧ (Y0 ≤ c.2 ∧ c.2 - Y0 < B)) → X0 ≤ x → Y0 ≤ y → l.length < B → ∀ p ∈ piecesF f X0 l x y, p.1 ≤ B ∧ (p.2 = 98 ∨ p.2 = 111 ∨ p.2 = 36)
  | 0, _, _, _, _, _, _, _, _, _, _, p, hp => by simp [piecesF] at hp
  | f + 1, X0, Y0, [], x, y, B, _, _, _, _, p, hp => by simp [piecesF] at hp
  | f + 1, X0, Y0, c :: r, x, y, B, hin, hx, hy, hl, p, hp => by
    obtain ⟨hs, hrl⟩ := run_split c r
    have hc := hin c List.mem_cons_self
    rw [List.length_cons] at hl
    rw [piecesF, List.mem_append, List.mem_cons, List.mem_cons] at hp
    rcases hp with hp | rfl | rfl | hp
    · split at hp
      · rw [List.mem_singleton] at hp
        subst hp
        exact ⟨by dsimp only; omega, .inr (.inr rfl)⟩
      · simp at hp
    · refine ⟨?_, .inl rfl⟩
      dsimp only
      split <;> omega
    · exact ⟨by dsimp only; omega, .inr (.inl rfl)⟩
    · exact pieces_fit f X0 Y0 (r.drop (runN c r)) _ c.2 B (fun d hd => hin d (List.mem_cons_of_mem _ (List.mem_of_mem_drop hd))) (by omega) hc.2.1 (by rw [List.length_drop]; omega) p hp
/-- Moved cells have the same pieces. -/
theorem runN_shift (dx dy : Int) : ∀ (c : Int × Int) (r : List (Int × Int)), runN (c.1 - dx, c.2 - dy) (r.map fun c => (c.1 - dx, c.2 - dy)) = runN c r
  | c, [] => rfl
  | c, d :: r => by
    rw [List.map_cons, runN, runN]
    have e : ((d.1 - dx, d.2 - dy) = ((c.1 - dx, c.2 - dy).1 + 1, (c.1 - dx, c.2 - dy).2)) ↔ d = (c.1 + 1, c.2) := by
      obtain ⟨a, b⟩ := d
      simp only [Prod.mk.injEq]
      omega
    by_cases h : d = (c.1 + 1, c.2)
    · rw [if_pos h, if_pos (e.2 h), runN_shift dx dy d r]
    · rw [if_neg h, if_neg (fun h2 => h (e.1 h2))]
theorem pieces_shift (dx dy : Int) : ∀ (f : Nat) (X0 : Int) (l : List (Int × Int)) (x y : Int), piecesF f (X0 - dx) (l.map fun c => (c.1 - dx, c.2 - dy)) (x - dx) (y - dy) = piecesF f X0 l x y
  | 0, _, _, _, _ => rfl
  | f + 1, X0, [], x, y => rfl
  | f + 1, X0, c :: r, x, y => by
    rw [List.map_cons, piecesF, piecesF, runN_shift]
    dsimp only
    have ih := pieces_shift dx dy f X0 (r.drop (runN c r)) (c.1 + (runN c r + 1 : Nat)) c.2
    rw [List.map_drop] at ih
    rw [show c.1 - dx + ((runN c r + 1 : Nat) : Int) = c.1 + ((runN c r + 1 : Nat) : Int) - dx by omega, ih]
    by_cases h : y < c.2
    · rw [if_pos h, if_pos h, if_pos (show y - dy < c.2 - dy by omega), if_pos (show y - dy < c.2 - dy by omega)]
      rw [show c.2 - dy - (y - dy) = c.2 - y by omega, show c.1 - dx - (X0 - dx) = c.1 - X0 by omega]
    · rw [if_neg h, if_neg h, if_neg (show ¬ y - dy < c.2 - dy by omega), if_neg (show ¬ y - dy < c.2 - dy by omega)]
      rw [show c.1 - dx - (x - dx) = c.1 - x by omega]

/-- The head line without its end. -/
def headT (W H : Nat) (t : List UInt8) : List UInt8 := [120, 32, 61, 32] ++ (decDigits W ++ ([44, 32, 121, 32, 61, 32] ++ (decDigits H ++ ([44, 32, 114, 117, 108, 101, 32, 61, 32] ++ t))))
/-- What is written of cells in order. -/
def encT (l : List (Int × Int)) (X0 Y0 : Int) (W H : Nat) (t : List UInt8) : List UInt8 := headT W H t ++ 10 :: (bodyT (piecesF l.length X0 l X0 Y0 ++ [(1, 33)]) 0 ++ [10])
section
variable (rd : List UInt8 → Int × Int × Int)
/-- A head line, read: width, height, the rule, whether it is one. -/
def headR (s : List UInt8) : Nat × Nat × (Int × Int) × Bool :=
  let s1 := trimPrefix s [120, 32, 61, 32]
  let n1 := rnum s1
  let s3 := trimPrefix n1.2.1 [44, 32, 121, 32, 61, 32]
  let n2 := rnum s3
  if hasPrefix s [120, 32, 61, 32] = false ∨ n1.2.2 = false ∨ hasPrefix n1.2.1 [44, 32, 121, 32, 61, 32] = false ∨ n2.2.2 = false then (0, 0, (8, 12), false)
  else if n2.2.1 = [] then (n1.1, n2.1, (8, 12), true)
  else
    let s5 := trimPrefix n2.2.1 [44, 32, 114, 117, 108, 101, 32, 61, 32]
    (n1.1, n2.1, ((rd s5).1, (rd s5).2.1), hasPrefix n2.2.1 [44, 32, 114, 117, 108, 101, 32, 61, 32] && decide ((rd s5).2.2 = 0))
/-- Ahead of the first end of a line, behind it, whether there is one. -/
def cutNl (s : List UInt8) : List UInt8 × List UInt8 × Bool := cut s [10]
def skipC : Nat → List UInt8 → List UInt8
  | 0, s => s
  | f + 1, s => if s.head? = some 35 then skipC f (cutNl s).2.1 else s
/-- A text, read: cells, the rule, the error. -/
def decodeR (s : List UInt8) : List (Int × Int) × (Int × Int) × Int :=
  if 20000 < s.length then ([], (0, 0), 1)
  else
    let s0 := skipC s.length s
    let p := cutNl s0
    let hd := headR rd p.1
    if p.2.2 = false ∨ hd.2.2.2 = false then ([], (0, 0), 2)
    else
      let q := scanR hd.1 hd.2.1 p.2.1 0 0 []
      if q.2 = 0 then (q.1, hd.2.2.1, 0) else ([], (0, 0), q.2)
end
theorem hasPrefix_append (p t : List UInt8) : hasPrefix (p ++ t) p = true := by
  unfold hasPrefix
  rw [List.isPrefixOf_iff_prefix]
  exact List.prefix_append p t
theorem trimPrefix_append (p t : List UInt8) : trimPrefix (p ++ t) p = t := by
  unfold trimPrefix
  rw [if_pos (hasPrefix_append p t)]
  simp
/-- The head line that is written is read. -/
theorem head_back (rd : List UInt8 → Int × Int × Int) (W H : Nat) (hW : W < 1000000000000) (hH : H < 1000000000000) (t : List UInt8) (b l : Int) (ht : rd t = (b, l, 0)) : headR rd (headT W H t) = (W, H, (b, l), true) := by
  unfold headR headT
  rw [trimPrefix_append, hasPrefix_append]
  dsimp only
  rw [rnum_dec W hW _ (fun c hc => by simp at hc; subst hc; rfl)]
  dsimp only
  rw [trimPrefix_append, hasPrefix_append]
  rw [rnum_dec H hH _ (fun c hc => by simp at hc; subst hc; rfl)]
  dsimp only
  rw [if_neg (by simp), if_neg (by simp), trimPrefix_append, hasPrefix_append, ht]
  rfl
theorem index_nl : ∀ (s : List UInt8), (10 : UInt8) ∉ s → ∀ t, Lib.index (s ++ 10 :: t) [10] = s.length
  | [], _, t => by rw [List.nil_append, Lib.index]; simp [List.isPrefixOf]
  | c :: s, h, t => by
    have hc : c ≠ 10 := fun e => h (by simp [e])
    have ih := index_nl s (fun hm => h (by simp [hm])) t
    rw [List.cons_append, Lib.index]
    have hpre : ([10] : List UInt8).isPrefixOf (c :: (s ++ 10 :: t)) = false := by simp [List.isPrefixOf]; exact fun e => hc e.symm
    rw [hpre, ih]
    have : ((s.length : Int) == -1) = false := by simp
    simp [this]
theorem cutNl_at (s t : List UInt8) (h : (10 : UInt8) ∉ s) : cutNl (s ++ 10 :: t) = (s, t, true) := by
  unfold cutNl cut
  rw [index_nl s h t, if_pos (by omega)]
  simp
theorem dec_no (n : Nat) (c : UInt8) (hc : isD c = false) : c ∉ decDigits n := fun h => by
  have := (decD n).1 c h
  rw [hc] at this; cases this
theorem headT_no (W H : Nat) (t : List UInt8) (ht : (10 : UInt8) ∉ t) : (10 : UInt8) ∉ headT W H t := by
  unfold headT
  simp only [List.mem_append, not_or]
  exact ⟨by decide, dec_no W 10 rfl, by decide, dec_no H 10 rfl, by decide, ht⟩
/-- What is written is read. -/
theorem dec_back (rd : List UInt8 → Int × Int × Int) (l : List (Int × Int)) (X0 Y0 : Int) (W H : Nat) (t : List UInt8) (b r : Int) (ht : rd t = (b, r, 0)) (hnl : (10 : UInt8) ∉ t) (hW : W < 1000000000000) (hH : H < 1000000000000)
    (hp : l.Pairwise ltR) (hin : ∀ c ∈ l, (X0 ≤ c.1 ∧ c.1 - X0 < W) ∧ (Y0 ≤ c.2 ∧ c.2 - Y0 < H)) (hn : l.length ≤ 4096) (hlen : (encT l X0 Y0 W H t).length ≤ 20000) :
    decodeR rd (encT l X0 Y0 W H t) = (l.map (fun c => (c.1 - X0, c.2 - Y0)), (b, r), 0) := by
  unfold decodeR
  rw [if_neg (by omega)]
  have hsk : skipC (encT l X0 Y0 W H t).length (encT l X0 Y0 W H t) = encT l X0 Y0 W H t := by
    unfold encT headT
    simp only [List.cons_append, List.length_cons]
    rw [skipC, if_neg (by simp)]
  rw [hsk]
  dsimp only
  unfold encT
  rw [cutNl_at _ _ (headT_no W H t hnl)]
  dsimp only
  rw [head_back rd W H hW hH t b r ht]
  dsimp only
  rw [if_neg (by simp)]
  have hfit := pieces_fit l.length X0 Y0 l X0 Y0 999999999999 (fun c hc => by have := hin c hc; omega) (Int.le_refl _) (Int.le_refl _) (by omega)
  have hsc := scan_body (W : Int) (H : Int) (piecesF l.length X0 l X0 Y0) (fun p hp => ⟨by have := (hfit p hp).1; omega, (hfit p hp).2⟩) 0 0 0 [] [10]
  rw [hsc]
  have hrun := run_pieces l.length X0 Y0 W H l X0 Y0 [] (Nat.le_refl _) hp (fun c hc => hin c hc) (fun c hc => by have := hin c hc; omega) (Int.le_refl _) (Int.le_refl _) (by unfold coordM; omega) (by unfold coordM; omega) (by simpa using hn)
  rw [Int.sub_self, Int.sub_self] at hrun
  rw [hrun]
  simp
end Go.Proofs.YtlcjadgaommfmaaDoor
