/-
  Plain laws of schemes and of their lines; no program in sight.
-/
import Derived.Lib.Hide
namespace Go.Proofs.Ytgkgdnocleajcaa.Plain
set_option linter.unusedVariables false
set_option linter.unusedSimpArgs false

/-- a node: its energy, its angular momentum, its parity -/
structure Nd where
  e : Int
  j : Int
  o : Bool

/-- a line: its upper and its lower node, its wave number -/
structure Ln where
  u : Nat
  l : Nat
  n : Int

instance : Inhabited Nd := ⟨⟨0, 0, false⟩⟩
instance : Inhabited Ln := ⟨⟨0, 0, 0⟩⟩

theorem Ln.eq_of {x y : Ln} (h1 : x.u = y.u) (h2 : x.l = y.l) (h3 : x.n = y.n) : x = y := by
  cases x; cases y; simp_all

def nodeOk (e j : Int) : Bool := decide (0 ≤ e ∧ e ≤ 200000) && decide (0 ≤ j ∧ j ≤ 24)
def nth (ns : List Nd) (i : Nat) : Nd := ns.getD i ⟨0, 0, false⟩
/-- the k-th node fits behind the ones ahead -/
def fits (ns : List Nd) (k : Nat) : Bool := nodeOk (nth ns k).e (nth ns k).j && ((nth ns k).j % 2 == (nth ns 0).j % 2) && (decide (k = 0) || decide ((nth ns (k - 1)).e < (nth ns k).e))
def fitTo (ns : List Nd) (k : Nat) : Bool := (List.range k).all (fits ns)
def schemeOk (ns : List Nd) : Bool := decide (1 ≤ ns.length ∧ ns.length ≤ 12) && ((nth ns 0).e == 0) && fitTo ns ns.length

theorem fitTo_succ (ns : List Nd) (k : Nat) : fitTo ns (k + 1) = (fitTo ns k && fits ns k) := by simp [fitTo, List.range_succ]
theorem fitTo_at {ns : List Nd} {k i : Nat} (h : fitTo ns k = true) (hi : i < k) : fits ns i = true := by
  unfold fitTo at h
  rw [List.all_eq_true] at h
  exact h i (List.mem_range.2 hi)
theorem fit_no {ns : List Nd} {k : Nat} (hk : k < ns.length) (h : fits ns k = false) : schemeOk ns = false := by
  unfold schemeOk
  cases hf : fitTo ns ns.length
  · simp
  · rw [fitTo_at hf hk] at h
    cases h
theorem scheme_short {ns : List Nd} (h : ¬ (1 ≤ ns.length ∧ ns.length ≤ 12)) : schemeOk ns = false := by simp [schemeOk, h]
theorem scheme_first {ns : List Nd} (h : ((nth ns 0).e == 0) = false) : schemeOk ns = false := by simp [schemeOk, h]
theorem scheme_all {ns : List Nd} (h1 : 1 ≤ ns.length) (h2 : ns.length ≤ 12) (h3 : ((nth ns 0).e == 0) = true) (h4 : fitTo ns ns.length = true) : schemeOk ns = true := by simp [schemeOk, h1, h2, h3, h4]
theorem nodeOk_bounds {e j : Int} (h : nodeOk e j = true) : (0 ≤ e ∧ e ≤ 200000) ∧ (0 ≤ j ∧ j ≤ 24) := by simpa [nodeOk] using h

theorem scheme_parts {ns : List Nd} (h : schemeOk ns = true) : 1 ≤ ns.length ∧ ns.length ≤ 12 ∧ (nth ns 0).e = 0 ∧ (∀ i, i < ns.length → fits ns i = true) := by
  simp [schemeOk] at h
  exact ⟨h.1.1.1, h.1.1.2, h.1.2, fun i hi => fitTo_at h.2 hi⟩
theorem fits_parts {ns : List Nd} {k : Nat} (h : fits ns k = true) : (0 ≤ (nth ns k).e ∧ (nth ns k).e ≤ 200000) ∧ (0 ≤ (nth ns k).j ∧ (nth ns k).j ≤ 24) ∧ (nth ns k).j % 2 = (nth ns 0).j % 2 ∧ (k ≠ 0 → (nth ns (k - 1)).e < (nth ns k).e) := by
  simp [fits] at h
  obtain ⟨⟨h1, h2⟩, h3⟩ := h
  exact ⟨(nodeOk_bounds h1).1, (nodeOk_bounds h1).2, h2, fun h0 => h3.resolve_left h0⟩
theorem nd_bounds {ns : List Nd} (h : schemeOk ns = true) {i : Nat} (hi : i < ns.length) : (0 ≤ (nth ns i).e ∧ (nth ns i).e ≤ 200000) ∧ (0 ≤ (nth ns i).j ∧ (nth ns i).j ≤ 24) :=
  ⟨(fits_parts ((scheme_parts h).2.2.2 i hi)).1, (fits_parts ((scheme_parts h).2.2.2 i hi)).2.1⟩
theorem e_mono {ns : List Nd} (h : schemeOk ns = true) : ∀ {i k : Nat}, i < ns.length → k < i → (nth ns k).e < (nth ns i).e := by
  intro i
  induction i with
  | zero => intro k _ hk; omega
  | succ i ih =>
    intro k hi hk
    have h1 := (fits_parts ((scheme_parts h).2.2.2 (i + 1) hi)).2.2.2 (by omega)
    rw [show i + 1 - 1 = i by omega] at h1
    rcases Nat.lt_or_eq_of_le (Nat.le_of_lt_succ hk) with hk' | rfl
    · have := ih (k := k) (by omega) hk'
      omega
    · exact h1

/-! ### lines -/
def absD (n : Int) : Int := if n < 0 then 0 - n else n
def near2 (a b : Int) : Bool := decide (absD (a - b) ≤ 2) && (a != 0 || b != 0)
def allow (x y : Nd) : Bool := (x.o != y.o) && near2 x.j y.j
def lineAt (ns : List Nd) (i k : Nat) : Ln := ⟨i, k, (nth ns i).e - (nth ns k).e⟩
/-- the lines from node i to the first k nodes -/
def rowTo (ns : List Nd) (i k : Nat) : List Ln := ((List.range k).filter fun q => allow (nth ns i) (nth ns q)).map (lineAt ns i)
/-- the lines from the first i nodes -/
def rawTo (ns : List Nd) (i : Nat) : List Ln := (List.range i).flatMap fun p => rowTo ns p p
def raw (ns : List Nd) : List Ln := rawTo ns ns.length

theorem rowTo_zero (ns : List Nd) (i : Nat) : rowTo ns i 0 = [] := rfl
theorem rowTo_yes {ns : List Nd} {i k : Nat} (h : allow (nth ns i) (nth ns k) = true) : rowTo ns i (k + 1) = rowTo ns i k ++ [lineAt ns i k] := by simp [rowTo, List.range_succ, List.filter_append, h]
theorem rowTo_no {ns : List Nd} {i k : Nat} (h : allow (nth ns i) (nth ns k) = false) : rowTo ns i (k + 1) = rowTo ns i k := by simp [rowTo, List.range_succ, List.filter_append, h]
theorem rawTo_succ (ns : List Nd) (i : Nat) : rawTo ns (i + 1) = rawTo ns i ++ rowTo ns i i := by simp [rawTo, List.range_succ]
theorem rowTo_len (ns : List Nd) (i k : Nat) : (rowTo ns i k).length ≤ k := by
  unfold rowTo
  rw [List.length_map]
  exact Nat.le_trans (List.length_filter_le _ _) (by simp)
theorem rawTo_len (ns : List Nd) (i : Nat) (m : Nat) (h : i ≤ m) : (rawTo ns i).length ≤ i * m := by
  induction i with
  | zero => simp [rawTo]
  | succ i ih =>
    have := ih (by omega)
    have h2 := rowTo_len ns i i
    rw [rawTo_succ, List.length_append, Nat.succ_mul]
    omega
theorem raw_len {ns : List Nd} (h : schemeOk ns = true) : (raw ns).length ≤ 144 := by
  have h1 := (scheme_parts h).2.1
  have := rawTo_len ns ns.length 12 h1
  unfold raw
  omega

/-- the order of lines -/
def lt (x y : Ln) : Bool := decide (x.n < y.n ∨ (x.n = y.n ∧ (x.u < y.u ∨ (x.u = y.u ∧ x.l < y.l))))
theorem lt_iff {x y : Ln} : lt x y = true ↔ (x.n < y.n ∨ (x.n = y.n ∧ (x.u < y.u ∨ (x.u = y.u ∧ x.l < y.l)))) := by simp [lt]
theorem lt_not {x y : Ln} : lt x y = false ↔ ¬ (x.n < y.n ∨ (x.n = y.n ∧ (x.u < y.u ∨ (x.u = y.u ∧ x.l < y.l)))) := by simp only [lt, decide_eq_false_iff_not]
def le (x y : Ln) : Bool := !lt y x
theorem le_iff {x y : Ln} : le x y = true ↔ ¬ (y.n < x.n ∨ (y.n = x.n ∧ (y.u < x.u ∨ (y.u = x.u ∧ y.l < x.l)))) := by
  unfold le
  rw [Bool.not_eq_true', lt_not]
theorem le_trans (x y z : Ln) (h1 : le x y = true) (h2 : le y z = true) : le x z = true := by
  rw [le_iff] at *
  omega
theorem le_total (x y : Ln) : (le x y || le y x) = true := by
  rw [Bool.or_eq_true, le_iff, le_iff]
  omega
theorem le_antisymm {x y : Ln} (h1 : le x y = true) (h2 : le y x = true) : x = y := by
  rw [le_iff] at *
  exact Ln.eq_of (by omega) (by omega) (by omega)
theorem lt_le {x y : Ln} (h : lt x y = true) : le x y = true := by
  rw [lt_iff] at h
  rw [le_iff]
  omega

def sorted (l : List Ln) : List Ln := l.mergeSort le
theorem sorted_pw (l : List Ln) : (sorted l).Pairwise (fun x y => le x y = true) := List.pairwise_mergeSort le_trans le_total l
theorem sorted_perm (l : List Ln) : (sorted l).Perm l := List.mergeSort_perm l le
theorem sorted_eq {l m : List Ln} (hp : m.Perm l) (hs : m.Pairwise (fun x y => le x y = true)) : m = sorted l :=
  List.Perm.eq_of_pairwise (fun _ _ _ _ => le_antisymm) hs (sorted_pw l) (hp.trans (sorted_perm l).symm)
theorem sorted_len (l : List Ln) : (sorted l).length = l.length := (sorted_perm l).length_eq

def linesOf (ns : List Nd) : List Ln := if schemeOk ns = true then sorted (raw ns) else []
theorem linesOf_yes {ns : List Nd} (h : schemeOk ns = true) : linesOf ns = sorted (raw ns) := by simp [linesOf, h]
theorem linesOf_no {ns : List Nd} (h : schemeOk ns = false) : linesOf ns = [] := by simp [linesOf, h]
theorem linesOf_len (ns : List Nd) : (linesOf ns).length ≤ 144 := by
  cases h : schemeOk ns
  · simp [linesOf_no h]
  · rw [linesOf_yes h, sorted_len]
    exact raw_len h

/-! ### the place of a line in a sorted list, from behind -/
def place (l : List Ln) (x : Ln) : Nat → Nat
  | 0 => 0
  | a + 1 => if lt x (l.getD a ⟨0, 0, 0⟩) = true then place l x a else a + 1
theorem place_le (l : List Ln) (x : Ln) (m : Nat) : place l x m ≤ m := by
  induction m with
  | zero => simp [place]
  | succ m ih => unfold place; split <;> omega
theorem place_above (l : List Ln) (x : Ln) (m : Nat) : ∀ a, place l x m ≤ a → a < m → lt x (l.getD a ⟨0, 0, 0⟩) = true := by
  induction m with
  | zero => intro a _ h; omega
  | succ m ih =>
    intro a h1 h2
    unfold place at h1
    split at h1
    · rename_i h
      rcases Nat.lt_or_eq_of_le (Nat.le_of_lt_succ h2) with h3 | rfl
      · exact ih a h1 h3
      · exact h
    · omega
theorem place_at (l : List Ln) (x : Ln) (m : Nat) : ∀ p, place l x m = p + 1 → lt x (l.getD p ⟨0, 0, 0⟩) = false := by
  induction m with
  | zero => intro p h; simp [place] at h
  | succ m ih =>
    intro p h
    unfold place at h
    split at h
    · exact ih p h
    · rename_i h'
      obtain rfl : m = p := by omega
      simpa using h'
def put (l : List Ln) (x : Ln) : List Ln := l.take (place l x l.length) ++ x :: l.drop (place l x l.length)
theorem put_len (l : List Ln) (x : Ln) : (put l x).length = l.length + 1 := by
  have := place_le l x l.length
  simp [put]
  omega
theorem put_perm (l : List Ln) (x : Ln) : (put l x).Perm (l ++ [x]) := by
  unfold put
  refine (List.perm_append_comm_assoc _ [x] _).trans ?_
  rw [List.take_append_drop]
  exact List.perm_append_comm
theorem put_pw {l : List Ln} (x : Ln) (h : l.Pairwise (fun x y => le x y = true)) : (put l x).Pairwise (fun x y => le x y = true) := by
  have hpl := place_le l x l.length
  have above : ∀ y ∈ l.drop (place l x l.length), le x y = true := by
    intro y hy
    obtain ⟨i, hi, rfl⟩ := List.getElem_of_mem hy
    rw [List.getElem_drop]
    have hlt : place l x l.length + i < l.length := by simpa using (by simp at hi; omega : place l x l.length + i < l.length)
    have := place_above l x l.length (place l x l.length + i) (by omega) hlt
    rw [List.getD_eq_getElem?_getD, List.getElem?_eq_getElem hlt] at this
    exact lt_le this
  have below : ∀ y ∈ l.take (place l x l.length), le y x = true := by
    intro y hy
    obtain ⟨i, hi, rfl⟩ := List.getElem_of_mem hy
    rw [List.getElem_take]
    have hi2 : i < place l x l.length := by simp at hi; omega
    obtain ⟨p, hp⟩ : ∃ p, place l x l.length = p + 1 := ⟨place l x l.length - 1, by omega⟩
    have h1 := place_at l x l.length p hp
    have hpl2 : p < l.length := by omega
    rw [List.getD_eq_getElem?_getD, List.getElem?_eq_getElem hpl2] at h1
    have h2 : le l[p] x = true := by
      unfold le
      simpa using h1
    rcases Nat.lt_or_eq_of_le (show i ≤ p by omega) with h3 | h3
    · exact le_trans _ _ _ (List.pairwise_iff_getElem.1 h i p (by omega) hpl2 h3) h2
    · subst h3
      exact h2
  unfold put
  rw [List.pairwise_append]
  refine ⟨h.sublist (List.take_sublist _ _), ?_, ?_⟩
  · rw [List.pairwise_cons]
    exact ⟨above, h.sublist (List.drop_sublist _ _)⟩
  · intro y hy z hz
    rcases List.mem_cons.1 hz with rfl | hz
    · exact below y hy
    · exact le_trans _ _ _ (below y hy) (above z hz)

theorem put_sorted (l : List Ln) (x : Ln) : put (sorted l) x = sorted (l ++ [x]) :=
  sorted_eq ((put_perm _ _).trans ((sorted_perm l).append_right [x])) (put_pw x (sorted_pw l))

/-! ### which lines there are -/
theorem mem_rowTo {ns : List Nd} {i k : Nat} {x : Ln} : x ∈ rowTo ns i k ↔ ∃ q, q < k ∧ allow (nth ns i) (nth ns q) = true ∧ x = lineAt ns i q := by
  simp only [rowTo, List.mem_map, List.mem_filter, List.mem_range]
  constructor
  · rintro ⟨q, ⟨h1, h2⟩, rfl⟩
    exact ⟨q, h1, h2, rfl⟩
  · rintro ⟨q, h1, h2, rfl⟩
    exact ⟨q, ⟨h1, h2⟩, rfl⟩
theorem mem_rawTo {ns : List Nd} {m : Nat} {x : Ln} : x ∈ rawTo ns m ↔ ∃ i k, i < m ∧ k < i ∧ allow (nth ns i) (nth ns k) = true ∧ x = lineAt ns i k := by
  simp only [rawTo, List.mem_flatMap, List.mem_range, mem_rowTo]
  constructor
  · rintro ⟨i, h1, k, h2, h3, h4⟩
    exact ⟨i, k, h1, h2, h3, h4⟩
  · rintro ⟨i, k, h1, h2, h3, h4⟩
    exact ⟨i, h1, k, h2, h3, h4⟩
theorem mem_lines {ns : List Nd} (h : schemeOk ns = true) {x : Ln} : x ∈ linesOf ns ↔ ∃ i k, i < ns.length ∧ k < i ∧ allow (nth ns i) (nth ns k) = true ∧ x = lineAt ns i k := by
  rw [linesOf_yes h, (sorted_perm _).mem_iff]
  exact mem_rawTo
theorem ok_of_mem {ns : List Nd} {x : Ln} (h : x ∈ linesOf ns) : schemeOk ns = true := by
  cases hs : schemeOk ns
  · rw [linesOf_no hs] at h
    simp at h
  · rfl
theorem ok_of_pos {ns : List Nd} (h : 0 < (linesOf ns).length) : schemeOk ns = true := by
  cases hs : schemeOk ns
  · rw [linesOf_no hs] at h
    simp at h
  · rfl
theorem rowTo_nodup (ns : List Nd) (i k : Nat) : (rowTo ns i k).Pairwise (fun x y => x.u = i ∧ y.u = i ∧ x.l < y.l) := by
  unfold rowTo
  rw [List.pairwise_map]
  have := (List.pairwise_lt_range (n := k)).sublist (List.filter_sublist (p := fun q => allow (nth ns i) (nth ns q)))
  exact this.imp fun h => ⟨rfl, rfl, h⟩
theorem rawTo_pw (ns : List Nd) (m : Nat) : (rawTo ns m).Pairwise (fun x y => x.u < y.u ∨ (x.u = y.u ∧ x.l < y.l)) := by
  induction m with
  | zero => simp [rawTo]
  | succ m ih =>
    rw [rawTo_succ, List.pairwise_append]
    refine ⟨ih, (rowTo_nodup ns m m).imp fun h => .inr ⟨h.1.trans h.2.1.symm, h.2.2⟩, ?_⟩
    intro x hx y hy
    obtain ⟨i, k, h1, _, _, rfl⟩ := mem_rawTo.1 hx
    obtain ⟨q, _, _, rfl⟩ := mem_rowTo.1 hy
    exact .inl h1
theorem raw_nodup (ns : List Nd) : (raw ns).Nodup := (rawTo_pw ns ns.length).imp fun h e => by subst e; omega
theorem lines_nodup (ns : List Nd) : (linesOf ns).Nodup := by
  cases h : schemeOk ns
  · simp [linesOf_no h]
  · rw [linesOf_yes h]
    exact (raw_nodup ns).perm (sorted_perm _).symm
theorem lines_pw (ns : List Nd) : (linesOf ns).Pairwise (fun x y => le x y = true) := by
  cases h : schemeOk ns
  · simp [linesOf_no h]
  · rw [linesOf_yes h]
    exact sorted_pw _
theorem lines_lt (ns : List Nd) : (linesOf ns).Pairwise (fun x y => lt x y = true) := by
  have h := (lines_pw ns).and (lines_nodup ns)
  refine h.imp fun {x y} ⟨h1, h2⟩ => ?_
  cases h3 : lt x y
  · exact absurd (le_antisymm h1 (by simp [le, h3])) h2
  · rfl
/-- a line of a scheme, taken apart -/
theorem line_parts {ns : List Nd} {x : Ln} (h : x ∈ linesOf ns) : x.u < ns.length ∧ x.l < x.u ∧ allow (nth ns x.u) (nth ns x.l) = true ∧ x.n = (nth ns x.u).e - (nth ns x.l).e ∧ 0 < x.n ∧ x.n ≤ 200000 := by
  have hs := ok_of_mem h
  obtain ⟨i, k, h1, h2, h3, rfl⟩ := (mem_lines hs).1 h
  have b1 := nd_bounds hs h1
  have b2 := nd_bounds hs (show k < ns.length by omega)
  have b3 := e_mono hs h1 h2
  refine ⟨h1, h2, h3, rfl, ?_, ?_⟩ <;> simp [lineAt] <;> omega
theorem allow_parts {x y : Nd} (h : allow x y = true) : x.o ≠ y.o ∧ -2 ≤ x.j - y.j ∧ x.j - y.j ≤ 2 ∧ (x.j ≠ 0 ∨ y.j ≠ 0) := by
  unfold allow near2 absD at h
  simp at h
  refine ⟨h.1, ?_, ?_, h.2.2⟩ <;> (have := h.2.1; split at this <;> omega)
theorem allow_iff {x y : Nd} : allow x y = true ↔ x.o ≠ y.o ∧ -2 ≤ x.j - y.j ∧ x.j - y.j ≤ 2 ∧ (x.j ≠ 0 ∨ y.j ≠ 0) := by
  constructor
  · exact allow_parts
  · rintro ⟨h1, h2, h3, h4⟩
    unfold allow near2 absD
    simp only [Bool.and_eq_true, bne_iff_ne, ne_eq, decide_eq_true_eq, Bool.or_eq_true]
    refine ⟨h1, ?_, h4⟩
    split <;> omega

/-! ### the wave number between two nodes -/
def between (l : List Ln) (u w : Int) : Int := match l.find? (fun x => decide ((x.u : Int) = u) && decide ((x.l : Int) = w)) with | some x => x.n | none => -1
theorem between_some {ns : List Nd} {u w : Int} (h : 0 ≤ between (linesOf ns) u w) : ∃ i k : Nat, (i : Int) = u ∧ (k : Int) = w ∧ i < ns.length ∧ k < i ∧ allow (nth ns i) (nth ns k) = true ∧ between (linesOf ns) u w = (nth ns i).e - (nth ns k).e := by
  unfold between at *
  cases hf : (linesOf ns).find? (fun x => decide ((x.u : Int) = u) && decide ((x.l : Int) = w)) with
  | none => rw [hf] at h; simp at h
  | some x =>
    have hm := List.mem_of_find?_eq_some hf
    have hp := List.find?_some hf
    simp at hp
    obtain ⟨h1, h2, h3, h4, _, _⟩ := line_parts hm
    exact ⟨x.u, x.l, hp.1, hp.2, h1, h2, h3, by simpa using h4⟩
theorem between_yes {ns : List Nd} (hs : schemeOk ns = true) {i k : Nat} (hi : i < ns.length) (hk : k < i) (h : allow (nth ns i) (nth ns k) = true) : 0 ≤ between (linesOf ns) i k := by
  unfold between
  cases hf : (linesOf ns).find? (fun x => decide ((x.u : Int) = (i : Int)) && decide ((x.l : Int) = (k : Int))) with
  | none =>
    have := List.find?_eq_none.1 hf (lineAt ns i k) ((mem_lines hs).2 ⟨i, k, hi, hk, h, rfl⟩)
    simp [lineAt] at this
  | some x =>
    have := line_parts (List.mem_of_find?_eq_some hf)
    show 0 ≤ x.n
    omega
theorem between_iff {ns : List Nd} (hs : schemeOk ns = true) {i k : Nat} (hi : i < ns.length) (hk : k < i) : decide (0 ≤ between (linesOf ns) i k) = allow (nth ns i) (nth ns k) := by
  cases h : allow (nth ns i) (nth ns k)
  · refine decide_eq_false fun h0 => ?_
    obtain ⟨i', k', e1, e2, _, _, h3, _⟩ := between_some h0
    obtain rfl : i' = i := by omega
    obtain rfl : k' = k := by omega
    rw [h] at h3
    cases h3
  · exact decide_eq_true (between_yes hs hi hk h)
/-- the sums around four nodes -/
theorem loop_sum {ns : List Nd} {a b c d : Int} (h1 : 0 ≤ between (linesOf ns) c a) (h2 : 0 ≤ between (linesOf ns) d b) (h3 : 0 ≤ between (linesOf ns) c b) (h4 : 0 ≤ between (linesOf ns) d a) :
    between (linesOf ns) c a + between (linesOf ns) d b = between (linesOf ns) c b + between (linesOf ns) d a := by
  obtain ⟨i1, k1, e1, f1, _, _, _, q1⟩ := between_some h1
  obtain ⟨i2, k2, e2, f2, _, _, _, q2⟩ := between_some h2
  obtain ⟨i3, k3, e3, f3, _, _, _, q3⟩ := between_some h3
  obtain ⟨i4, k4, e4, f4, _, _, _, q4⟩ := between_some h4
  obtain rfl : i1 = i3 := by omega
  obtain rfl : i2 = i4 := by omega
  obtain rfl : k1 = k4 := by omega
  obtain rfl : k2 = k3 := by omega
  omega
theorem no_three {ns : List Nd} {a b c : Int} (h1 : 0 ≤ between (linesOf ns) a b) (h2 : 0 ≤ between (linesOf ns) a c) (h3 : 0 ≤ between (linesOf ns) b c) : False := by
  obtain ⟨i1, k1, e1, f1, _, _, p1, _⟩ := between_some h1
  obtain ⟨i2, k2, e2, f2, _, _, p2, _⟩ := between_some h2
  obtain ⟨i3, k3, e3, f3, _, _, p3, _⟩ := between_some h3
  obtain rfl : i1 = i2 := by omega
  obtain rfl : k1 = i3 := by omega
  obtain rfl : k2 = k3 := by omega
  have q1 := (allow_parts p1).1
  have q2 := (allow_parts p2).1
  have q3 := (allow_parts p3).1
  revert q1 q2 q3
  cases (nth ns i1).o <;> cases (nth ns k1).o <;> cases (nth ns k2).o <;> simp

/-! ### the other parity; the first nodes -/
def flipN (x : Nd) : Nd := ⟨x.e, x.j, !x.o⟩
theorem nth_flip (ns : List Nd) {i : Nat} (hi : i < ns.length) : nth (ns.map flipN) i = flipN (nth ns i) := by
  simp [nth, List.getD_eq_getElem?_getD, hi]
theorem allow_flip (x y : Nd) : allow (flipN x) (flipN y) = allow x y := by
  unfold allow flipN
  cases x.o <;> cases y.o <;> rfl
theorem all_congr {m : Nat} {p q : Nat → Bool} (h : ∀ i, i < m → p i = q i) : (List.range m).all p = (List.range m).all q := by
  rw [Bool.eq_iff_iff, List.all_eq_true, List.all_eq_true]
  constructor
  · intro g i hi
    rw [← h i (List.mem_range.1 hi)]
    exact g i hi
  · intro g i hi
    rw [h i (List.mem_range.1 hi)]
    exact g i hi
theorem fits_congr {ns ms : List Nd} {k : Nat} (h : ∀ i, i ≤ k → (nth ns i).e = (nth ms i).e ∧ (nth ns i).j = (nth ms i).j) : fits ns k = fits ms k := by
  unfold fits
  rw [(h k (by omega)).1, (h k (by omega)).2, (h 0 (by omega)).2, (h (k - 1) (by omega)).1]
theorem scheme_flip (ns : List Nd) : schemeOk (ns.map flipN) = schemeOk ns := by
  have hl : (ns.map flipN).length = ns.length := by simp
  unfold schemeOk fitTo
  rw [hl]
  by_cases h0 : 0 < ns.length
  · rw [nth_flip ns h0, show (flipN (nth ns 0)).e = (nth ns 0).e from rfl]
    rw [all_congr (m := ns.length) (p := fits (ns.map flipN)) (q := fits ns) fun i hi => fits_congr fun k hk => by rw [nth_flip ns (by omega)]; exact ⟨rfl, rfl⟩]
  · simp [show ns.length = 0 by omega]
theorem rowTo_congr {ns ms : List Nd} {i k : Nat} (h1 : ∀ q, q < k → allow (nth ns i) (nth ns q) = allow (nth ms i) (nth ms q)) (h2 : ∀ q, q < k → lineAt ns i q = lineAt ms i q) : rowTo ns i k = rowTo ms i k := by
  induction k with
  | zero => rfl
  | succ k ih =>
    have h := ih (fun q hq => h1 q (by omega)) (fun q hq => h2 q (by omega))
    cases ha : allow (nth ns i) (nth ns k)
    · rw [rowTo_no ha, rowTo_no ((h1 k (by omega)).symm.trans ha), h]
    · rw [rowTo_yes ha, rowTo_yes ((h1 k (by omega)).symm.trans ha), h, h2 k (by omega)]
theorem rawTo_congr {ns ms : List Nd} {m : Nat} (h1 : ∀ i q, i < m → q < i → allow (nth ns i) (nth ns q) = allow (nth ms i) (nth ms q)) (h2 : ∀ i q, i < m → q < i → lineAt ns i q = lineAt ms i q) : rawTo ns m = rawTo ms m := by
  induction m with
  | zero => rfl
  | succ m ih =>
    rw [rawTo_succ, rawTo_succ, ih (fun i q hi hq => h1 i q (by omega) hq) (fun i q hi hq => h2 i q (by omega) hq), rowTo_congr (fun q hq => h1 m q (by omega) hq) (fun q hq => h2 m q (by omega) hq)]
theorem lines_flip (ns : List Nd) : linesOf (ns.map flipN) = linesOf ns := by
  unfold linesOf
  rw [scheme_flip]
  have : raw (ns.map flipN) = raw ns := by
    unfold raw
    rw [List.length_map]
    refine rawTo_congr (fun i q hi hq => ?_) (fun i q hi hq => ?_)
    · rw [nth_flip ns hi, nth_flip ns (by omega), allow_flip]
    · unfold lineAt
      rw [nth_flip ns hi, nth_flip ns (by omega)]
      rfl
  rw [this]
theorem nth_take (ns : List Nd) {i k : Nat} (hi : i < k) : nth (ns.take k) i = nth ns i := by
  simp [nth, List.getD_eq_getElem?_getD, List.getElem?_take, hi]
theorem scheme_take {ns : List Nd} (h : schemeOk ns = true) {k : Nat} (h1 : 1 ≤ k) (h2 : k ≤ ns.length) : schemeOk (ns.take k) = true := by
  obtain ⟨p1, p2, p3, p4⟩ := scheme_parts h
  have hl : (ns.take k).length = k := by simp; omega
  refine scheme_all (by omega) (by omega) (by rw [nth_take ns (by omega)]; simpa using p3) ?_
  unfold fitTo
  rw [hl, List.all_eq_true]
  intro i hi
  have hi' := List.mem_range.1 hi
  rw [fits_congr (ms := ns) fun q hq => by rw [nth_take ns (by omega)]; exact ⟨rfl, rfl⟩]
  exact p4 i (by omega)
theorem rawTo_filter (ns : List Nd) (k m : Nat) (h : k ≤ m) : (rawTo ns m).filter (fun x => decide (x.u < k)) = rawTo ns k := by
  induction m with
  | zero => obtain rfl : k = 0 := by omega
            simp [rawTo]
  | succ m ih =>
    rcases Nat.lt_or_eq_of_le h with h1 | rfl
    · rw [rawTo_succ, List.filter_append, ih (by omega)]
      have : (rowTo ns m m).filter (fun x => decide (x.u < k)) = [] := by
        rw [List.filter_eq_nil_iff]
        intro x hx
        obtain ⟨q, _, _, rfl⟩ := mem_rowTo.1 hx
        have hmk : ¬ m < k := by omega
        simp [lineAt, hmk]
      rw [this, List.append_nil]
    · rw [List.filter_eq_self]
      intro x hx
      obtain ⟨i, q, hi, _, _, rfl⟩ := mem_rawTo.1 hx
      exact decide_eq_true hi
theorem lines_take {ns : List Nd} (h : schemeOk ns = true) {k : Nat} (h1 : 1 ≤ k) (h2 : k ≤ ns.length) : linesOf (ns.take k) = (linesOf ns).filter (fun x => decide (x.u < k)) := by
  rw [linesOf_yes (scheme_take h h1 h2), linesOf_yes h]
  refine (sorted_eq ?_ ((sorted_pw _).sublist List.filter_sublist)).symm
  refine ((sorted_perm (raw ns)).filter _).trans ?_
  unfold raw
  rw [rawTo_filter ns k ns.length h2, List.length_take, Nat.min_eq_left h2]
  have e : rawTo ns k = rawTo (ns.take k) k := rawTo_congr (fun i q hi hq => by rw [nth_take ns hi, nth_take ns (show q < k by omega)]) (fun i q hi hq => by unfold lineAt; rw [nth_take ns hi, nth_take ns (show q < k by omega)])
  rw [e]

end Go.Proofs.Ytgkgdnocleajcaa.Plain
