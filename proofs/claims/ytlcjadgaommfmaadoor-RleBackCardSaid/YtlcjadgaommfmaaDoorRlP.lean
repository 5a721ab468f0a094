/- rle: numbers, pieces and bodies in plain words. No program is named here. -/
import Derived.Lib.ItoaNum
import Derived.Lib.Atoi
namespace Go.Proofs.YtlcjadgaommfmaaDoor
open Go.Lib

def isD (c : UInt8) : Bool := decide (48 ≤ c.toNat ∧ c.toNat ≤ 57)
/-- The number that a text begins with: at most f digits; how many digits, what is behind. -/
def numGo : Nat → List UInt8 → Nat → Nat × Nat × List UInt8
  | 0, s, n => (n, 0, s)
  | _ + 1, [], n => (n, 0, [])
  | f + 1, c :: s, n => if isD c = true then ((numGo f s (n * 10 + (c.toNat - 48))).1, (numGo f s (n * 10 + (c.toNat - 48))).2.1 + 1, (numGo f s (n * 10 + (c.toNat - 48))).2.2) else (n, 0, c :: s)
def numOk (s : List UInt8) (k : Nat) : Bool := decide (0 < k ∧ k < 13 ∧ (k = 1 ∨ s.head? ≠ some 48))
def rnum (s : List UInt8) : Nat × List UInt8 × Bool := ((numGo 13 s 0).1, (numGo 13 s 0).2.2, numOk s (numGo 13 s 0).2.1)
theorem numGo_rest : ∀ (f : Nat) (s : List UInt8) (n : Nat), (numGo f s n).2.2.length + (numGo f s n).2.1 = s.length
  | 0, s, n => rfl
  | f + 1, [], n => rfl
  | f + 1, c :: s, n => by
    rw [numGo]
    split
    · have := numGo_rest f s (n * 10 + (c.toNat - 48)); simp only [List.length_cons]; omega
    · rfl
theorem rnum_rest (s : List UInt8) : (rnum s).2.1.length ≤ s.length ∧ ((rnum s).2.2 = true → (rnum s).2.1.length < s.length) := by
  have := numGo_rest 13 s 0
  unfold rnum
  refine ⟨by dsimp only; omega, fun h => ?_⟩
  have h := of_decide_eq_true h
  dsimp only
  omega
/-- Digits ahead of what is none. -/
def valFrom (acc : Nat) : List UInt8 → Nat
  | [] => acc
  | c :: s => valFrom (acc * 10 + (c.toNat - 48)) s
theorem valFrom_append (l m : List UInt8) : ∀ acc, valFrom acc (l ++ m) = valFrom (valFrom acc l) m := by
  induction l with
  | nil => intro acc; rfl
  | cons c r ih => intro acc; exact ih _
theorem numGo_digits : ∀ (l : List UInt8) (f acc : Nat) (t : List UInt8), (∀ c ∈ l, isD c = true) → l.length ≤ f → (∀ c, t.head? = some c → isD c = false) → numGo f (l ++ t) acc = (valFrom acc l, l.length, t)
  | [], 0, acc, t, _, _, _ => rfl
  | [], f + 1, acc, t, _, _, ht => by
    cases t with
    | nil => rfl
    | cons c r =>
      have := ht c rfl
      rw [List.nil_append, numGo, if_neg (by rw [this]; simp)]; rfl
  | c :: l, 0, acc, t, _, hl, _ => by simp at hl
  | c :: l, f + 1, acc, t, hd, hl, ht => by
    have ih := numGo_digits l f (acc * 10 + (c.toNat - 48)) t (fun x hx => hd x (List.mem_cons_of_mem _ hx)) (by simpa using hl) ht
    rw [List.cons_append, numGo, if_pos (hd c List.mem_cons_self), ih]
    rfl
theorem digit_of (k : Nat) (h : k < 10) : isD (UInt8.ofNat (48 + k)) = true ∧ (UInt8.ofNat (48 + k)).toNat - 48 = k := by
  have : (UInt8.ofNat (48 + k)).toNat = 48 + k := by rw [UInt8.toNat_ofNat']; omega
  unfold isD
  rw [this]
  exact ⟨decide_eq_true (by omega), by omega⟩
theorem decD_small {n : Nat} (h : n < 10) : (∀ c ∈ decDigits n, isD c = true) ∧ valFrom 0 (decDigits n) = n := by
  obtain ⟨h1, h2⟩ := digit_of n h
  rw [decDigits, dif_pos h]
  generalize UInt8.ofNat (48 + n) = u at h1 h2
  refine ⟨fun c hc => ?_, ?_⟩
  · rw [List.mem_singleton] at hc; rw [hc]; exact h1
  · show 0 * 10 + (u.toNat - 48) = n
    rw [h2, Nat.zero_mul, Nat.zero_add]
theorem decD_great {n : Nat} (h : ¬ n < 10) (ih : (∀ c ∈ decDigits (n / 10), isD c = true) ∧ valFrom 0 (decDigits (n / 10)) = n / 10) : (∀ c ∈ decDigits n, isD c = true) ∧ valFrom 0 (decDigits n) = n := by
  obtain ⟨h1, h2⟩ := ih
  obtain ⟨g1, g2⟩ := digit_of (n % 10) (Nat.mod_lt _ (by decide))
  rw [decDigits, dif_neg h]
  generalize UInt8.ofNat (48 + n % 10) = u at g1 g2
  generalize decDigits (n / 10) = l at h1 h2
  refine ⟨fun c hc => ?_, ?_⟩
  · rw [List.mem_append, List.mem_singleton] at hc
    rcases hc with hc | hc
    · exact h1 c hc
    · rw [hc]; exact g1
  · rw [valFrom_append, h2]
    show n / 10 * 10 + (u.toNat - 48) = n
    rw [g2]; omega
theorem decD (n : Nat) : (∀ c ∈ decDigits n, isD c = true) ∧ valFrom 0 (decDigits n) = n := by
  induction n using Nat.strongRecOn with
  | _ n ih =>
    by_cases h : n < 10
    · exact decD_small h
    · exact decD_great h (ih (n / 10) (by omega))
theorem decD_len : ∀ (k n : Nat), n < 10 ^ (k + 1) → (decDigits n).length ≤ k + 1
  | 0, n, h => by rw [decDigits, dif_pos (by omega)]; simp
  | k + 1, n, h => by
    rw [decDigits]
    split
    · simp
    · have := decD_len k (n / 10) (by rw [Nat.pow_succ] at h; omega)
      rw [List.length_append, List.length_singleton]; omega
theorem head_app {l m : List UInt8} (h : l ≠ []) : (l ++ m).head? = l.head? := by
  cases l with
  | nil => exact absurd rfl h
  | cons a r => rfl
theorem decD_ne (n : Nat) : decDigits n ≠ [] := by
  rw [decDigits]; split <;> simp
theorem decD_head : ∀ (n : Nat), n ≠ 0 → (decDigits n).head? ≠ some 48 := by
  intro n
  induction n using Nat.strongRecOn with
  | _ n ih =>
    intro h0
    rw [decDigits]
    split
    · rename_i h
      rw [List.head?_cons]
      intro e
      have := (digit_of n h).2
      generalize UInt8.ofNat (48 + n) = u at e this
      injection e with e
      rw [e] at this
      exact h0 (by rw [← this]; rfl)
    · rename_i h
      rw [head_app (decD_ne _)]
      exact ih (n / 10) (by omega) (by omega)
theorem decD_one {n : Nat} (h : n < 10) : (decDigits n).length = 1 := by rw [decDigits, dif_pos h]; rfl
/-- A number as it is written is read. -/
theorem rnum_dec (n : Nat) (h : n < 1000000000000) (t : List UInt8) (ht : ∀ c, t.head? = some c → isD c = false) : rnum (decDigits n ++ t) = (n, t, true) := by
  obtain ⟨h1, h2⟩ := decD n
  have hl := decD_len 11 n (by omega)
  have hp : 0 < (decDigits n).length := List.length_pos_iff.2 (decD_ne n)
  have hg := numGo_digits (decDigits n) 13 0 t h1 (by omega) ht
  unfold rnum
  rw [hg, h2]
  have hok : numOk (decDigits n ++ t) (decDigits n).length = true := by
    unfold numOk
    apply decide_eq_true
    refine ⟨hp, by omega, ?_⟩
    by_cases h0 : n = 0
    · left; rw [h0]; exact decD_one (by omega)
    · right; rw [head_app (decD_ne n)]; exact decD_head n h0
  rw [hok]

/-- So many cells of a row. -/
def rowC (x y : Int) (n : Nat) : List (Int × Int) := (List.range n).map fun (i : Nat) => (x + (i : Int), y)
def coordM : Int := 2199023255552
/-- What a letter does, so many times. -/
def actR (k : List UInt8 → Int → Int → List (Int × Int) → List (Int × Int) × Int) (w h : Int) (n : Nat) (d : UInt8) (r : List UInt8) (x y : Int) (out : List (Int × Int)) : List (Int × Int) × Int :=
  if d = 32 ∨ d = 10 ∨ d = 9 ∨ d = 13 then k r x y out
  else if d = 33 then (out, 0)
  else if d = 36 then k r 0 (min (y + n) coordM) out
  else if d = 98 then k r (min (x + n) coordM) y out
  else if d = 111 then (if h ≤ y ∨ w - x < n then ([], 3) else if 4096 < out.length + n then ([], 5) else k r (min (x + n) coordM) y (out ++ rowC x y n))
  else ([], 2)
/-- A body, read. -/
def scanF (w h : Int) : Nat → List UInt8 → Int → Int → List (Int × Int) → List (Int × Int) × Int
  | 0, _, _, _, _ => ([], 2)
  | _ + 1, [], _, _, _ => ([], 2)
  | f + 1, c :: s, x, y, out =>
    if isD c = true then
      (if (rnum (c :: s)).2.2 = false ∨ (rnum (c :: s)).1 = 0 then ([], 2) else match (rnum (c :: s)).2.1 with
        | [] => ([], 2)
        | d :: r => if d = 98 ∨ d = 111 ∨ d = 36 then actR (scanF w h f) w h (rnum (c :: s)).1 d r x y out else ([], 2))
    else actR (scanF w h f) w h 1 c s x y out
theorem actR_congr {k k' : List UInt8 → Int → Int → List (Int × Int) → List (Int × Int) × Int} (w h : Int) (n : Nat) (d : UInt8) (r : List UInt8) (x y : Int) (out : List (Int × Int)) (hk : ∀ x y out, k r x y out = k' r x y out) : actR k w h n d r x y out = actR k' w h n d r x y out := by
  unfold actR
  simp only [hk]
theorem scanF_more (w h : Int) : ∀ (f : Nat) (s : List UInt8), s.length ≤ f → ∀ (g : Nat), s.length ≤ g → ∀ x y out, scanF w h f s x y out = scanF w h g s x y out := by
  intro f
  induction f with
  | zero =>
    intro s hs g hg x y out
    have : s = [] := List.eq_nil_of_length_eq_zero (by omega)
    subst this
    cases g <;> rfl
  | succ f ih =>
    intro s hs g hg x y out
    cases s with
    | nil => cases g <;> rfl
    | cons c s =>
      cases g with
      | zero => simp at hg
      | succ g =>
        simp only [List.length_cons] at hs hg
        have key : ∀ r : List UInt8, r.length ≤ s.length → ∀ x y out, scanF w h f r x y out = scanF w h g r x y out := fun r hr x y out => ih r (by omega) g (by omega) x y out
        rw [scanF, scanF]
        split
        · split
          · rfl
          · rename_i hc
            have hok : (rnum (c :: s)).2.2 = true := by
              cases h1 : (rnum (c :: s)).2.2
              · exact absurd (.inl h1) hc
              · rfl
            have hlt := (rnum_rest (c :: s)).2 hok
            generalize (rnum (c :: s)).2.1 = t at hlt
            cases t with
            | nil => rfl
            | cons d r =>
              simp only [List.length_cons] at hlt
              dsimp only
              split
              · exact actR_congr w h _ d r x y out (key r (by omega))
              · rfl
        · exact actR_congr w h 1 c s x y out (key s (Nat.le_refl _))
/-- A body, read, whatever its length. -/
def scanR (w h : Int) (s : List UInt8) (x y : Int) (out : List (Int × Int)) : List (Int × Int) × Int := scanF w h s.length s x y out
theorem scanR_nil (w h x y : Int) (out : List (Int × Int)) : scanR w h [] x y out = ([], 2) := rfl
theorem scanR_letter (w h : Int) (c : UInt8) (s : List UInt8) (x y : Int) (out : List (Int × Int)) (hc : isD c = false) : scanR w h (c :: s) x y out = actR (scanR w h) w h 1 c s x y out := by
  unfold scanR
  rw [List.length_cons, scanF, if_neg (by rw [hc]; simp)]
  rfl
theorem scanR_number (w h : Int) (c : UInt8) (s : List UInt8) (x y : Int) (out : List (Int × Int)) (hc : isD c = true) : scanR w h (c :: s) x y out =
    (if (rnum (c :: s)).2.2 = false ∨ (rnum (c :: s)).1 = 0 then ([], 2) else match (rnum (c :: s)).2.1 with
      | [] => ([], 2)
      | d :: r => if d = 98 ∨ d = 111 ∨ d = 36 then actR (scanR w h) w h (rnum (c :: s)).1 d r x y out else ([], 2)) := by
  unfold scanR
  rw [List.length_cons, scanF, if_pos hc]
  split
  · rfl
  · rename_i hn
    have hok : (rnum (c :: s)).2.2 = true := by
      cases h1 : (rnum (c :: s)).2.2
      · exact absurd (.inl h1) hn
      · rfl
    have hlt := (rnum_rest (c :: s)).2 hok
    generalize (rnum (c :: s)).2.1 = t at hlt
    cases t with
    | nil => rfl
    | cons d r =>
      simp only [List.length_cons] at hlt
      dsimp only
      split
      · exact actR_congr w h _ d r x y out fun x y out => scanF_more w h _ r (by omega) _ (Nat.le_refl _) x y out
      · rfl

/-- A piece's text: so many times a letter. -/
def pieceP (p : Nat × UInt8) : List UInt8 := (if 1 < p.1 then decDigits p.1 else []) ++ [p.2]
theorem scan_piece (w h : Int) (n : Nat) (d : UInt8) (hn : 0 < n) (hn2 : n < 1000000000000) (hd : d = 98 ∨ d = 111 ∨ d = 36) (t : List UInt8) (x y : Int) (out : List (Int × Int)) :
    scanR w h (pieceP (n, d) ++ t) x y out = actR (scanR w h) w h n d t x y out := by
  have hdd : isD d = false := by rcases hd with rfl | rfl | rfl <;> rfl
  unfold pieceP
  dsimp only
  by_cases h1 : 1 < n
  · rw [if_pos h1, List.append_assoc]
    obtain ⟨c, s, hcs⟩ : ∃ c s, decDigits n = c :: s := by
      cases hc : decDigits n with
      | nil => exact absurd hc (decD_ne n)
      | cons c s => exact ⟨c, s, rfl⟩
    have hr := rnum_dec n hn2 ([d] ++ t) (fun c hc => by simp at hc; subst hc; exact hdd)
    have hcd : isD c = true := (decD n).1 c (by rw [hcs]; exact List.mem_cons_self)
    rw [hcs, List.cons_append] at hr ⊢
    rw [scanR_number w h c _ x y out hcd, hr]
    dsimp only [List.singleton_append]
    rw [if_neg (by simp; omega), if_pos hd]
  · have : n = 1 := by omega
    subst this
    rw [if_neg (by omega), List.nil_append, List.singleton_append]
    exact scanR_letter w h d t x y out hdd
theorem scan_end (w h : Int) (t : List UInt8) (x y : Int) (out : List (Int × Int)) : scanR w h (33 :: t) x y out = (out, 0) := by
  rw [scanR_letter w h 33 t x y out rfl]; rfl
theorem scan_line (w h : Int) (t : List UInt8) (x y : Int) (out : List (Int × Int)) : scanR w h (10 :: t) x y out = scanR w h t x y out := by
  rw [scanR_letter w h 10 t x y out rfl]; rfl
/-- Pieces on lines: the text, and the column. -/
def layP (st : List UInt8 × Nat) (p : Nat × UInt8) : List UInt8 × Nat :=
  if p.1 = 0 then st else if 70 < st.2 + (pieceP p).length then (st.1 ++ 10 :: pieceP p, (pieceP p).length) else (st.1 ++ pieceP p, st.2 + (pieceP p).length)
def bodyT : List (Nat × UInt8) → Nat → List UInt8
  | [], _ => []
  | p :: ps, col => if p.1 = 0 then bodyT ps col else if 70 < col + (pieceP p).length then 10 :: (pieceP p ++ bodyT ps (pieceP p).length) else pieceP p ++ bodyT ps (col + (pieceP p).length)
theorem lay_body : ∀ (ps : List (Nat × UInt8)) (txt : List UInt8) (col : Nat), (ps.foldl layP (txt, col)).1 = txt ++ bodyT ps col
  | [], txt, col => by simp [bodyT]
  | p :: ps, txt, col => by
    rw [List.foldl_cons, layP, bodyT]
    dsimp only
    split
    · exact lay_body ps txt col
    · split
      · rw [lay_body ps]; simp
      · rw [lay_body ps]; simp
/-- What pieces do. -/
def runP (w h : Int) : List (Nat × UInt8) → Int → Int → List (Int × Int) → List (Int × Int) × Int
  | [], _, _, out => (out, 0)
  | p :: ps, x, y, out => if p.1 = 0 then runP w h ps x y out else actR (fun _ x y out => runP w h ps x y out) w h p.1 p.2 [] x y out
theorem scan_body (w h : Int) : ∀ (ps : List (Nat × UInt8)), (∀ p ∈ ps, p.1 < 1000000000000 ∧ (p.2 = 98 ∨ p.2 = 111 ∨ p.2 = 36)) → ∀ (col : Nat) (x y : Int) (out : List (Int × Int)) (t : List UInt8),
    scanR w h (bodyT (ps ++ [(1, 33)]) col ++ t) x y out = runP w h ps x y out
  | [], _, col, x, y, out, t => by
    rw [List.nil_append, bodyT, if_neg (by simp)]
    have hp : pieceP (1, 33) = [33] := rfl
    rw [hp]
    split
    · rw [List.cons_append, scan_line]; exact scan_end w h _ x y out
    · exact scan_end w h _ x y out
  | p :: ps, hps, col, x, y, out, t => by
    obtain ⟨h1, h2⟩ := hps p List.mem_cons_self
    have ih := scan_body w h ps (fun q hq => hps q (List.mem_cons_of_mem _ hq))
    rw [List.cons_append, bodyT, runP]
    by_cases h0 : p.1 = 0
    · rw [if_pos h0, if_pos h0]; exact ih col x y out t
    · rw [if_neg h0, if_neg h0]
      obtain ⟨n, d⟩ := p
      dsimp only at h1 h2 h0 ⊢
      have hact : ∀ col', actR (scanR w h) w h n d (bodyT (ps ++ [(1, 33)]) col' ++ t) x y out = actR (fun _ x y out => runP w h ps x y out) w h n d [] x y out := fun col' => by
        unfold actR
        simp only [ih col']
      split
      · rw [List.cons_append, scan_line, List.append_assoc, scan_piece w h n d (by omega) h1 h2, hact]
      · rw [List.append_assoc, scan_piece w h n d (by omega) h1 h2, hact]
end Go.Proofs.YtlcjadgaommfmaaDoor
