/- TurnsFair: the walk. -/
import Derived.Test.YtfoipadgicjcaaaTurns2
import Derived.Deep.DeepCutAuto
namespace Go.Proofs.Ytfoipadgicjcaaa
open Go.RowKit

def ch (n : Nat) : ByteArray := Utf8.encode n
def msg (k j : Nat) : ByteArray := (⟨#[109]⟩ ++ ch (48 + k)) ++ ch (65 + j % 26)
theorem ch_size (r : Nat) : (ch r).size ≤ 4 := by
  unfold ch Utf8.encode
  simp only
  generalize (if Utf8.valid (r : Int) = true then (r : Int).toNat else Utf8.runeError) = c
  by_cases h1 : c < 128
  · rw [if_pos h1]; exact Nat.le_of_ble_eq_true rfl
  · rw [if_neg h1]
    by_cases h2 : c < 2048
    · rw [if_pos h2]; exact Nat.le_of_ble_eq_true rfl
    · rw [if_neg h2]
      by_cases h3 : c < 65536
      · rw [if_pos h3]; exact Nat.le_of_ble_eq_true rfl
      · rw [if_neg h3]; exact Nat.le_of_ble_eq_true rfl
theorem cat1 (P : Program) (k : Nat) (w : World) : (Op.stringOp .add ⟨#[109]⟩ (ch k)).run P w = .ok (.string (⟨#[109]⟩ ++ ch k)) w :=
  run_string_add_sum w _ _ (by have := ch_size k; have e : (⟨#[109]⟩ : ByteArray).size = 1 := rfl; omega)
theorem cat2 (P : Program) (k j : Nat) (w : World) : (Op.stringOp .add (⟨#[109]⟩ ++ ch k) (ch j)).run P w = .ok (.string ((⟨#[109]⟩ ++ ch k) ++ ch j)) w :=
  run_string_add_sum w _ _ (by have := ch_size k; have := ch_size j; have e : (⟨#[109]⟩ : ByteArray).size = 1 := rfl; rw [ByteArray.size_append]; omega)
theorem ch_eq1 (k : Nat) : Utf8.encode (48 + (k : Int)) = ch (48 + k) := by unfold ch; congr 1
theorem ch_eq2 (j : Nat) : Utf8.encode (65 + (j : Int) % 26) = ch (65 + j % 26) := by unfold ch; congr 1
def msgs (k a b : Nat) : List ByteArray := (List.range (b - a)).map fun d => msg k (a + d)

/-- The passes, as they are read. -/
def Passes (w : World) (B : Nat) (v : Value) (n : Nat) (f : Nat → Bool × Int) : Prop :=
  ∃ A cap, v = .slice A n cap ∧ n ≤ maxLen ∧ (0 < n → ∃ b off, A = some ⟨b, off, none⟩ ∧ b < B ∧ ∀ i, i < n → w.cell? ⟨b, off + i * 2, none⟩ = some (.bool (f i).1) ∧ w.cell? ⟨b, off + i * 2 + 1, none⟩ = some (.int .i64 (f i).2))

theorem Try.info3 : (Try.prog.info? 3).map (fun i => (i.zero, i.size, i.bytes)) = some (some (.int .i64 0), 1, 8) := by kernel_rfl
theorem Try.info28 : (Try.prog.info? 28).map (fun i => (i.zero, i.size, i.bytes)) = some (some (.slice none 0 0), 1, 24) := by kernel_rfl


/-- How far x lies behind the next one, round. -/
def dist (n nx x : Nat) : Nat := if nx ≤ x then x - nx else x + n - nx

/-- What the law keeps in memory. -/
structure FairMem (w : World) (B T S G Z n nx : Nat) (s g : Nat → Nat) (z : Nat → Nat → Nat) (zb : Nat → Nat) (vz : Nat → Value) : Prop where
  t : TurnsAt w B T n nx (fun k => msgs k (g k) (s k))
  rS : w.rowIs S 3 n (fun k => .int .i64 (s k))
  rG : w.rowIs G 3 n (fun k => .int .i64 (g k))
  rZ : w.rowIs Z 28 n vz
  zs : ∀ k, k < n → g k < s k → vz k = .slice (some ⟨zb k, 0, none⟩) n n ∧ w.rowIs (zb k) 3 n (fun u => .int .i64 (z k u))
  form : ∀ k, k < n → ∃ A m c, vz k = .slice A m c
  ne : S ≠ G
  ne1 : ∀ k, k < n → g k < s k → zb k ≠ S ∧ zb k ≠ G
  ne2 : ∀ j k, j < n → k < n → g j < s j → g k < s k → j ≠ k → zb j ≠ zb k
  hB : B ≤ S ∧ B ≤ G ∧ B ≤ Z
  hB1 : ∀ k, k < n → g k < s k → B ≤ zb k
  gs : ∀ k, k < n → g k ≤ s k ∧ s k ≤ g k + 8

/-- Whom others were served since a tenant's work began to wait: at most once, and such a one lies farther off than it. -/
def FairZ (n nx : Nat) (s g : Nat → Nat) (z : Nat → Nat → Nat) : Prop :=
  ∀ j, j < n → g j < s j → ∀ u, u < n → u ≠ j → z j u ≤ 1 ∧ (z j u = 1 → dist n nx j < dist n nx u)

theorem msgs_length (k a b : Nat) : (msgs k a b).length = b - a := by simp [msgs]
theorem msgs_snoc (k a b : Nat) (h : a ≤ b) : msgs k a (b + 1) = msgs k a b ++ [msg k b] := by
  unfold msgs
  rw [show b + 1 - a = (b - a) + 1 by omega, List.range_succ, List.map_append]
  simp only [List.map_cons, List.map_nil, List.append_cancel_left_eq, List.cons.injEq, and_true]
  rw [show a + (b - a) = b by omega]
theorem msgs_cons (k a b : Nat) (h : a < b) : msgs k a b = msg k a :: msgs k (a + 1) b := by
  unfold msgs
  rw [show b - a = (b - (a + 1)) + 1 by omega, List.range_succ_eq_map, List.map_cons, List.map_map, Nat.add_zero]
  refine congrArg _ (List.map_congr_left fun d _ => ?_)
  simp only [Function.comp, Nat.succ_eq_add_one]
  rw [show a + (d + 1) = a + 1 + d by omega]
theorem msgs_nil (k a b : Nat) (h : b ≤ a) : msgs k a b = [] := by
  unfold msgs; rw [show b - a = 0 by omega]; rfl

theorem dist_lt {n nx x : Nat} (h1 : nx < n) (h2 : x < n) : dist n nx x < n := by unfold dist; split <;> omega
theorem mod_once {n a : Nat} (h : a < n + n) : a % n = if a < n then a else a - n := by
  split
  · exact Nat.mod_eq_of_lt ‹_›
  · rw [Nat.mod_eq_sub_mod (by omega), Nat.mod_eq_of_lt (by omega)]
theorem at_dist {n nx x : Nat} (h1 : nx < n) (h2 : x < n) : (nx + dist n nx x) % n = x := by
  have := dist_lt h1 h2
  rw [mod_once (by omega)]; unfold dist at *; split <;> split at this <;> split <;> omega
theorem dist_at {n nx k : Nat} (h1 : nx < n) (h2 : k < n) : dist n nx ((nx + k) % n) = k := by
  rw [mod_once (by omega)]; unfold dist; split <;> split <;> omega

/-- At a pop: who waits lies no nearer than who is served. -/
theorem pop_near {n nx : Nat} {q : Nat → List ByteArray} {k u j : Nat} (hnx : nx < n) (hp : PopAt n nx q k) (hu : u = (nx + k) % n) (hj : j < n) (hw : q j ≠ []) : dist n nx u ≤ dist n nx j := by
  obtain ⟨h1, h2, h3⟩ := hp
  rw [hu, dist_at hnx h1]
  rcases Nat.lt_or_ge (dist n nx j) k with hlt | hge
  · exact absurd (by have := h2 _ hlt; rwa [at_dist hnx hj] at this) hw
  · exact hge
theorem dist_next {n nx u x : Nat} (hnx : nx < n) (hu : u < n) (hx : x < n) (hne : x ≠ u) (hle : dist n nx u ≤ dist n nx x) : dist n ((u + 1) % n) x + dist n nx u + 1 = dist n nx x := by
  rw [mod_once (by omega)]; unfold dist at *; grind
theorem dist_self {n u : Nat} (hu : u < n) : dist n ((u + 1) % n) u = n - 1 := by
  rw [mod_once (by omega)]; unfold dist; grind


theorem TurnsAt.nx_lt {w : World} {B T n nx : Nat} {q : Nat → List ByteArray} (h : TurnsAt w B T n nx q) : nx < n := by obtain ⟨W, vs, h⟩ := h; exact h.hx
theorem TurnsAt.drewN {w : World} {B T n nx : Nat} {q : Nat → List ByteArray} (h : TurnsAt w B T n nx q) (k : Nat) : TurnsAt (w.drewN k) B T n nx q := by
  obtain ⟨W, vs, h⟩ := h
  exact ⟨W, vs, h.hn, h.hn', h.hx, h.hB, h.blk, h.row, h.sl, h.own, h.apart⟩
theorem TurnsAt.congr {w : World} {B T n nx : Nat} {q q' : Nat → List ByteArray} (h : TurnsAt w B T n nx q) (e : ∀ k, k < n → q k = q' k) : TurnsAt w B T n nx q' := by
  obtain ⟨W, vs, h⟩ := h
  exact ⟨W, vs, h.hn, h.hn', h.hx, h.hB, h.blk, h.row, fun k hk => e k hk ▸ h.sl k hk, h.own, h.apart⟩
/-- Kept where no block of turns' types has changed. -/
theorem TurnsAt.keep {w w' : World} {B T n nx : Nat} {q : Nat → List ByteArray} (h : TurnsAt w B T n nx q) (hk : ∀ b t cs, t ∈ turnTypes → Blk w b t cs → w'.heap[b]? = w.heap[b]?) : TurnsAt w' B T n nx q := by
  obtain ⟨W, vs, h⟩ := h
  obtain ⟨csW, hW⟩ := rowIs_blk h.row
  refine ⟨W, vs, h.hn, h.hn', h.hx, h.hB, (hk T _ _ (by simp [turnTypes]) h.blk).trans h.blk, h.row.of_block (hk W _ _ (by simp [turnTypes]) hW), fun k hkn => (h.sl k hkn).of_blk fun b hb => ?_, h.own, h.apart⟩
  obtain ⟨_, cs, hcs⟩ := (h.sl k hkn).lt hb
  exact hk b _ cs (by simp [turnTypes]) hcs
theorem TurnsAt.far {w : World} {B T n nx : Nat} {q : Nat → List ByteArray} (h : TurnsAt w B T n nx q) {b : Nat} {t : TypeId} {cs : Array Value} (hb : Blk w b t cs) (ht : t ∉ turnTypes) (i : Nat) (u : Value) : TurnsAt (w.setCell ⟨b, i, none⟩ u) B T n nx q :=
  h.keep fun b' t' cs' ht' hb' => Below.heap_setCell w ⟨b, i, none⟩ u b' (by rintro rfl; exact ht ((hb.inj hb').1 ▸ ht'))
theorem TurnsAt.alloc {w : World} {B T n nx : Nat} {q : Nat → List ByteArray} (h : TurnsAt w B T n nx q) (o : Obj) : TurnsAt (w.alloc o) B T n nx q :=
  h.keep fun b t cs _ hb => Below.heap_alloc w o b hb.lt

section
variable {w w1 : World} {B T S G Z n nx : Nat} {s g : Nat → Nat} {z : Nat → Nat → Nat} {zb : Nat → Nat} {vz : Nat → Value}
theorem FairMem.drewN (h : FairMem w B T S G Z n nx s g z zb vz) (k : Nat) : FairMem (w.drewN k) B T S G Z n nx s g z zb vz :=
  ⟨h.t.drewN k, h.rS, h.rG, h.rZ, h.zs, h.form, h.ne, h.ne1, h.ne2, h.hB, h.hB1, h.gs⟩
theorem int_other {b t : Nat} {cs : Array Value} (hb : Blk w b t cs) (ht : t ∉ turnTypes) : ¬ Own B turnTypes w b := by
  rintro ⟨_, t', ht', cs', hb'⟩; exact ht ((hb.inj hb').1 ▸ ht')
theorem row_mod {b t : Nat} {f : Nat → Value} (h : w.rowIs b t n f) (hm : Mod (Own B turnTypes w) w w1) (ht : t ∉ turnTypes) : w1.rowIs b t n f := by
  obtain ⟨cs, hb⟩ := rowIs_blk h
  exact h.of_block (hm.block b hb.lt (int_other hb ht))
theorem row_ne {b b' t t' : Nat} {f f' : Nat → Value} {n' : Nat} (h : w.rowIs b t n f) (h' : w.rowIs b' t' n' f') (ht : t ≠ t') : b ≠ b' := by
  obtain ⟨cs, hb⟩ := rowIs_blk h
  obtain ⟨cs', hb'⟩ := rowIs_blk h'
  exact hb.ne hb' ht

/-- Behind Push or Pop: what is not the turns' own is as it was. -/
theorem FairMem.others (h : FairMem w B T S G Z n nx s g z zb vz) (hm : Mod (Own B turnTypes w) w w1) :
    w1.rowIs S 3 n (fun k => .int .i64 (s k)) ∧ w1.rowIs G 3 n (fun k => .int .i64 (g k)) ∧ w1.rowIs Z 28 n vz ∧
    ∀ k, k < n → g k < s k → vz k = .slice (some ⟨zb k, 0, none⟩) n n ∧ w1.rowIs (zb k) 3 n (fun u => .int .i64 (z k u)) :=
  ⟨row_mod h.rS hm (by decide), row_mod h.rG hm (by decide), row_mod h.rZ hm (by decide), fun k hk hw => ⟨(h.zs k hk hw).1, row_mod (h.zs k hk hw).2 hm (by decide)⟩⟩

theorem fair_push_wait (h : FairMem w B T S G Z n nx s g z zb vz) {k : Nat} (hk : k < n) (hw : g k < s k) (hlt : s k < g k + 8)
    (ht : TurnsAt w1 B T n nx (upd (fun k => msgs k (g k) (s k)) k (msgs k (g k) (s k) ++ [msg k (s k)]))) (hm : Mod (Own B turnTypes w) w w1) :
    FairMem (w1.setCell ⟨S, k, none⟩ (.int .i64 ((s k + 1 : Nat) : Int))) B T S G Z n nx (upd s k (s k + 1)) g z zb vz := by
  obtain ⟨oS, oG, oZ, oz⟩ := h.others hm
  obtain ⟨csS, bS⟩ := rowIs_blk oS
  have hwt : ∀ j, g j < upd s k (s k + 1) j → g j < s j := by intro j hj; unfold upd at hj; split at hj <;> subst_vars <;> omega
  refine ⟨(ht.far bS (by decide) k _).congr ?_, ?_, oG.setOther (a := ⟨S, k, none⟩) (Ne.symm h.ne) _, oZ.setOther (a := ⟨S, k, none⟩) (row_ne oZ oS (by decide)) _, ?_, h.form, h.ne, fun j hj hw => h.ne1 j hj (hwt j hw), fun i j hi hj a b => h.ne2 i j hi hj (hwt i a) (hwt j b), h.hB, fun j hj a => h.hB1 j hj (hwt j a), ?_⟩
  · intro j hj; unfold upd; split
    · subst_vars; exact (msgs_snoc _ _ _ (by omega)).symm
    · rfl
  · exact (oS.set k _).congr fun j hj => by unfold upd; split <;> rfl
  · intro j hj hw
    exact ⟨(oz j hj (hwt j hw)).1, (oz j hj (hwt j hw)).2.setOther (a := ⟨S, k, none⟩) (h.ne1 j hj (hwt j hw)).1 _⟩
  · intro j hj; have := h.gs j hj; unfold upd; split <;> subst_vars <;> omega

theorem fair_push_new (h : FairMem w B T S G Z n nx s g z zb vz) {k : Nat} (hk : k < n) (hw : g k = s k) (hBw : B ≤ w.heap.size)
    (ht : TurnsAt w1 B T n nx (upd (fun k => msgs k (g k) (s k)) k (msgs k (g k) (s k) ++ [msg k (s k)]))) (hm : Mod (Own B turnTypes w) w w1) :
    FairMem (((w1.alloc (.cells (madeCells #[.int .i64 0] n) 3)).setCell ⟨Z, k, none⟩ (.slice (some ⟨w1.heap.size, 0, none⟩) n n)).setCell ⟨S, k, none⟩ (.int .i64 ((s k + 1 : Nat) : Int))) B T S G Z n nx
      (upd s k (s k + 1)) g (upd z k (fun _ => 0)) (upd zb k w1.heap.size) (upd vz k (.slice (some ⟨w1.heap.size, 0, none⟩) n n)) := by
  obtain ⟨oS, oG, oZ, oz⟩ := h.others hm
  have hms := hm.size
  have hwt : ∀ j, j ≠ k → g j < upd s k (s k + 1) j → g j < s j := by intro j hne hj; unfold upd at hj; rw [if_neg hne] at hj; exact hj
  have lS := oS.lt
  have lG := oG.lt
  have lZ := oZ.lt
  have nZS : Z ≠ S := row_ne oZ oS (by decide)
  have nZG : Z ≠ G := row_ne oZ oG (by decide)
  have two : ∀ {b t m : Nat} {f : Nat → Value}, w1.rowIs b t m f → b ≠ Z → b ≠ S → (((w1.alloc (.cells (madeCells #[.int .i64 0] n) 3)).setCell ⟨Z, k, none⟩ (.slice (some ⟨w1.heap.size, 0, none⟩) n n)).setCell ⟨S, k, none⟩ (.int .i64 ((s k + 1 : Nat) : Int))).rowIs b t m f :=
    fun hr a b => ((hr.alloc _).setOther (a := ⟨Z, k, none⟩) a _).setOther (a := ⟨S, k, none⟩) b _
  have fresh := ((World.rowIs_made w1 (.int .i64 0) n 3).setOther (a := ⟨Z, k, none⟩) (show w1.heap.size ≠ Z by omega) (.slice (some ⟨w1.heap.size, 0, none⟩) n n)).setOther (a := ⟨S, k, none⟩) (show w1.heap.size ≠ S by omega) (.int .i64 ((s k + 1 : Nat) : Int))
  obtain ⟨csZ, bZ⟩ := rowIs_blk (oZ.alloc (.cells (madeCells #[.int .i64 0] n) 3))
  obtain ⟨csS, bS⟩ := rowIs_blk ((oS.alloc (.cells (madeCells #[.int .i64 0] n) 3)).setOther (a := ⟨Z, k, none⟩) (Ne.symm nZS) (.slice (some ⟨w1.heap.size, 0, none⟩) n n))
  refine ⟨(((ht.alloc _).far bZ (by decide) k _).far bS (by decide) k _).congr ?_, ?_, two oG (Ne.symm nZG) (Ne.symm h.ne), ?_, ?_, ?_, h.ne, ?_, ?_, h.hB, ?_, ?_⟩
  · intro j hj; unfold upd; split
    · subst_vars; exact (msgs_snoc _ _ _ (by omega)).symm
    · rfl
  · exact (((oS.alloc _).setOther (a := ⟨Z, k, none⟩) (Ne.symm nZS) _).set k _).congr fun j hj => by unfold upd; split <;> rfl
  · exact (((oZ.alloc _).set k _).setOther (a := ⟨S, k, none⟩) nZS _).congr fun j hj => by unfold upd; split <;> rfl
  · intro j hj hw
    by_cases e : j = k
    · subst e; simp only [upd, if_true]; exact ⟨trivial, fresh⟩
    · have hw' := hwt j e hw
      simp only [upd, if_neg e]
      exact ⟨(oz j hj hw').1, two (oz j hj hw').2 (row_ne (oz j hj hw').2 oZ (by decide)) (h.ne1 j hj hw').1⟩
  · intro j hj; unfold upd; split
    · exact ⟨_, _, _, rfl⟩
    · exact h.form j hj
  · intro j hj hw
    by_cases e : j = k
    · subst e; simp only [upd, if_true]; omega
    · simp only [upd, if_neg e]; exact h.ne1 j hj (hwt j e hw)
  · intro i j hi hj a b hij
    by_cases e : i = k
    · subst e
      simp only [upd, if_true, if_neg (Ne.symm hij)]
      have := (oz j hj (hwt j (Ne.symm hij) b)).2.lt; omega
    · by_cases e2 : j = k
      · subst e2
        simp only [upd, if_true, if_neg hij]
        have := (oz i hi (hwt i hij a)).2.lt; omega
      · simp only [upd, if_neg e, if_neg e2]; exact h.ne2 i j hi hj (hwt i e a) (hwt j e2 b) hij
  · intro j hj hw
    by_cases e : j = k
    · subst e; simp only [upd, if_true]; omega
    · simp only [upd, if_neg e]; exact h.hB1 j hj (hwt j e hw)
  · intro j hj; have := h.gs j hj; unfold upd; split <;> subst_vars <;> omega

/-- Pop has served u, and got[u] is counted up. -/
theorem fair_popped (h : FairMem w B T S G Z n nx s g z zb vz) {u nx' : Nat} (hu : u < n) (hw : g u < s u)
    (ht : TurnsAt w1 B T n nx' (upd (fun k => msgs k (g k) (s k)) u (msgs u (g u + 1) (s u)))) (hm : Mod (Own B turnTypes w) w w1) :
    FairMem (w1.setCell ⟨G, u, none⟩ (.int .i64 ((g u + 1 : Nat) : Int))) B T S G Z n nx' s (upd g u (g u + 1)) z zb vz := by
  obtain ⟨oS, oG, oZ, oz⟩ := h.others hm
  obtain ⟨csG, bG⟩ := rowIs_blk oG
  have hwt : ∀ j, upd g u (g u + 1) j < s j → g j < s j := by intro j hj; unfold upd at hj; split at hj <;> subst_vars <;> omega
  refine ⟨(ht.far bG (by decide) u _).congr ?_, oS.setOther (a := ⟨G, u, none⟩) h.ne _, ?_, oZ.setOther (a := ⟨G, u, none⟩) (row_ne oZ oG (by decide)) _, ?_, h.form, h.ne, fun j hj hw => h.ne1 j hj (hwt j hw), fun i j hi hj a b => h.ne2 i j hi hj (hwt i a) (hwt j b), h.hB, fun j hj a => h.hB1 j hj (hwt j a), ?_⟩
  · intro j hj; unfold upd; split <;> subst_vars <;> rfl
  · exact (oG.set u _).congr fun j hj => by unfold upd; split <;> rfl
  · intro j hj hw
    exact ⟨(oz j hj (hwt j hw)).1, (oz j hj (hwt j hw)).2.setOther (a := ⟨G, u, none⟩) (h.ne1 j hj (hwt j hw)).2 _⟩
  · intro j hj; have := h.gs j hj; unfold upd; split <;> subst_vars <;> omega

/-- since[j][u]++ -/
theorem fair_count (h : FairMem w B T S G Z n nx s g z zb vz) {j u : Nat} (hj : j < n) (hw : g j < s j) (x : Nat) :
    FairMem (w.setCell ⟨zb j, u, none⟩ (.int .i64 (x : Int))) B T S G Z n nx s g (upd z j (upd (z j) u x)) zb vz := by
  obtain ⟨z1, z2⟩ := h.zs j hj hw
  obtain ⟨csz, bz⟩ := rowIs_blk z2
  refine ⟨h.t.far bz (by decide) u _, h.rS.setOther (a := ⟨zb j, u, none⟩) (Ne.symm (h.ne1 j hj hw).1) _, h.rG.setOther (a := ⟨zb j, u, none⟩) (Ne.symm (h.ne1 j hj hw).2) _, h.rZ.setOther (a := ⟨zb j, u, none⟩) (row_ne h.rZ z2 (by decide)) _, ?_, h.form, h.ne, h.ne1, h.ne2, h.hB, h.hB1, h.gs⟩
  intro i hi hwi
  by_cases e : i = j
  · subst e
    refine ⟨z1, (z2.set u _).congr fun v hv => ?_⟩
    simp only [upd, if_true]; split <;> rfl
  · simp only [upd, if_neg e]
    exact ⟨(h.zs i hi hwi).1, (h.zs i hi hwi).2.setOther (a := ⟨zb j, u, none⟩) (h.ne2 i j hi hj hwi hw e) _⟩

/-- since[u] = make([]int, n) -/
theorem fair_fresh (h : FairMem w B T S G Z n nx s g z zb vz) {u : Nat} (hu : u < n) (hBw : B ≤ w.heap.size) :
    FairMem ((w.alloc (.cells (madeCells #[.int .i64 0] n) 3)).setCell ⟨Z, u, none⟩ (.slice (some ⟨w.heap.size, 0, none⟩) n n)) B T S G Z n nx
      s g (upd z u (fun _ => 0)) (upd zb u w.heap.size) (upd vz u (.slice (some ⟨w.heap.size, 0, none⟩) n n)) := by
  have lS := h.rS.lt
  have lG := h.rG.lt
  have lZ := h.rZ.lt
  have one : ∀ {b t m : Nat} {f : Nat → Value}, w.rowIs b t m f → b ≠ Z → ((w.alloc (.cells (madeCells #[.int .i64 0] n) 3)).setCell ⟨Z, u, none⟩ (.slice (some ⟨w.heap.size, 0, none⟩) n n)).rowIs b t m f :=
    fun hr a => (hr.alloc _).setOther (a := ⟨Z, u, none⟩) a _
  have fresh := (World.rowIs_made w (.int .i64 0) n 3).setOther (a := ⟨Z, u, none⟩) (show w.heap.size ≠ Z by omega) (.slice (some ⟨w.heap.size, 0, none⟩) n n)
  obtain ⟨csZ, bZ⟩ := rowIs_blk (h.rZ.alloc (.cells (madeCells #[.int .i64 0] n) 3))
  refine ⟨(h.t.alloc _).far bZ (by decide) u _, one h.rS (row_ne h.rS h.rZ (by decide)), one h.rG (row_ne h.rG h.rZ (by decide)), ?_, ?_, ?_, h.ne, ?_, ?_, h.hB, ?_, h.gs⟩
  · exact ((h.rZ.alloc _).set u _).congr fun j hj => by unfold upd; split <;> rfl
  · intro j hj hw
    by_cases e : j = u
    · subst e; simp only [upd, if_true]; exact ⟨trivial, fresh⟩
    · simp only [upd, if_neg e]
      exact ⟨(h.zs j hj hw).1, one (h.zs j hj hw).2 (row_ne (h.zs j hj hw).2 h.rZ (by decide))⟩
  · intro j hj; unfold upd; split
    · exact ⟨_, _, _, rfl⟩
    · exact h.form j hj
  · intro j hj hw
    by_cases e : j = u
    · subst e; simp only [upd, if_true]; omega
    · simp only [upd, if_neg e]; exact h.ne1 j hj hw
  · intro i j hi hj a b hij
    by_cases e : i = u
    · subst e
      simp only [upd, if_true, if_neg (Ne.symm hij)]
      have := (h.zs j hj b).2.lt; omega
    · by_cases e2 : j = u
      · subst e2
        simp only [upd, if_true, if_neg hij]
        have := (h.zs i hi a).2.lt; omega
      · simp only [upd, if_neg e, if_neg e2]; exact h.ne2 i j hi hj a b hij
  · intro j hj hw
    by_cases e : j = u
    · subst e; simp only [upd, if_true]; omega
    · simp only [upd, if_neg e]; exact h.hB1 j hj hw
end

/-- The counts behind the first j tenants: u was served. -/
def zz (s g : Nat → Nat) (z : Nat → Nat → Nat) (u j : Nat) : Nat → Nat → Nat := fun i v => if i < j ∧ i ≠ u ∧ g i < s i ∧ v = u then z i u + 1 else z i v
theorem zz_zero (s g : Nat → Nat) (z : Nat → Nat → Nat) (u : Nat) : zz s g z u 0 = z := by
  funext i v; simp [zz]
theorem zz_skip {s g : Nat → Nat} {z : Nat → Nat → Nat} {u j : Nat} (h : ¬ (j ≠ u ∧ g j < s j)) : zz s g z u (j + 1) = zz s g z u j := by
  funext i v; unfold zz
  by_cases e : i = j
  · subst e; rw [if_neg (by omega), if_neg (by omega)]
  · have : (i < j + 1) = (i < j) := by apply propext; omega
    simp only [this]
theorem zz_step {s g : Nat → Nat} {z : Nat → Nat → Nat} {u j : Nat} (h1 : j ≠ u) (h2 : g j < s j) : zz s g z u (j + 1) = upd (zz s g z u j) j (upd (zz s g z u j j) u (z j u + 1)) := by
  funext i v; unfold zz upd
  by_cases e : i = j
  · subst e
    by_cases ev : v = u
    · subst ev; simp [h1, h2]
    · simp [ev]
  · have : (i < j + 1) = (i < j) := by apply propext; omega
    simp [e, this]
theorem zz_at {s g : Nat → Nat} {z : Nat → Nat → Nat} {u j : Nat} : zz s g z u j j u = z j u := by unfold zz; simp

/-- The served one's neighbours in wait stay fair. -/
theorem fair_next {n nx u k : Nat} {s g : Nat → Nat} {z : Nat → Nat → Nat} (hz : FairZ n nx s g z) (hnx : nx < n) (hu : u < n) (hp : PopAt n nx (fun k => msgs k (g k) (s k)) k) (hk : u = (nx + k) % n) (hgs : ∀ k, k < n → g k ≤ s k) :
    (∀ j, j < n → j ≠ u → g j < s j → z j u = 0) ∧ FairZ n ((u + 1) % n) s (upd g u (g u + 1)) (upd (zz s (upd g u (g u + 1)) z u n) u (fun _ => 0)) := by
  have near : ∀ j, j < n → g j < s j → dist n nx u ≤ dist n nx j := fun j hj hw => pop_near hnx hp hk hj (by
    show msgs j (g j) (s j) ≠ []
    rw [msgs_cons _ _ _ hw]; simp)
  have h0 : ∀ j, j < n → j ≠ u → g j < s j → z j u = 0 := by
    intro j hj hne hw
    obtain ⟨h1, h2⟩ := hz j hj hw u hu (Ne.symm hne)
    have := near j hj hw
    rcases Nat.eq_zero_or_pos (z j u) with e | e
    · exact e
    · have := h2 (by omega); omega
  refine ⟨h0, ?_⟩
  intro j hj hw v hv hvj
  by_cases e : j = u
  · subst e; simp [upd]
  · have hw' : g j < s j := by simpa [upd, e] using hw
    have hgu : upd g u (g u + 1) j = g j := by simp [upd, e]
    have hdj := dist_next hnx hu hj e (near j hj hw')
    simp only [upd, if_neg e]
    unfold zz
    rw [hgu]
    by_cases ev : v = u
    · subst ev
      rw [if_pos ⟨hj, e, hw', rfl⟩, h0 j hj e hw']
      refine ⟨Nat.le_refl _, fun _ => ?_⟩
      rw [dist_self hu]
      have := dist_lt hnx hj; omega
    · rw [if_neg (by simp [ev])]
      obtain ⟨h1, h2⟩ := hz j hj hw' v hv hvj
      refine ⟨h1, fun h3 => ?_⟩
      have h4 := h2 h3
      have := near j hj hw'
      have hdv := dist_next hnx hu hv ev (by omega)
      omega

def workB (s g : Nat → Nat) (j : Nat) : Bool := (List.range j).any fun i => decide (g i < s i)
theorem workB_succ (s g : Nat → Nat) (j : Nat) : workB s g (j + 1) = (workB s g j || decide (g j < s j)) := by
  unfold workB; rw [List.range_succ, List.any_append]; simp
theorem workB_true {s g : Nat → Nat} {n : Nat} (h : ∃ j, j < n ∧ g j < s j) : workB s g n = true := by
  obtain ⟨j, h1, h2⟩ := h
  unfold workB; rw [List.any_eq_true]; exact ⟨j, by simpa using h1, by simpa using h2⟩

theorem least_of {p : Nat → Prop} (n : Nat) (h : ∃ j, j < n ∧ p j) : ∃ k, k < n ∧ p k ∧ ∀ j, j < k → ¬ p j := by
  induction n with
  | zero => obtain ⟨j, hj, _⟩ := h; omega
  | succ n ih =>
    by_cases hh : ∃ j, j < n ∧ p j
    · obtain ⟨k, h1, h2, h3⟩ := ih hh; exact ⟨k, by omega, h2, h3⟩
    · obtain ⟨j, hj, hp⟩ := h
      have : j = n := by
        rcases Nat.lt_or_ge j n with a | a
        · exact absurd ⟨j, a, hp⟩ hh
        · omega
      subst this
      exact ⟨j, hj, hp, fun i hi hpi => hh ⟨i, hi, hpi⟩⟩

theorem pop_exists {n nx : Nat} {s g : Nat → Nat} (hnx : nx < n) (h : ∃ j, j < n ∧ g j < s j) :
    ∃ k, PopAt n nx (fun k => msgs k (g k) (s k)) k ∧ g ((nx + k) % n) < s ((nx + k) % n) := by
  obtain ⟨k, h1, h2, h3⟩ := least_of (p := fun k => g ((nx + k) % n) < s ((nx + k) % n)) n (by
    obtain ⟨j, hj, hw⟩ := h
    exact ⟨dist n nx j, dist_lt hnx hj, by rw [at_dist hnx hj]; exact hw⟩)
  refine ⟨k, ⟨h1, fun j hj => msgs_nil _ _ _ (by have := h3 j hj; omega), ?_⟩, h2⟩
  show msgs _ _ _ ≠ []
  rw [msgs_cons _ _ _ h2]; simp
end Go.Proofs.Ytfoipadgicjcaaa
