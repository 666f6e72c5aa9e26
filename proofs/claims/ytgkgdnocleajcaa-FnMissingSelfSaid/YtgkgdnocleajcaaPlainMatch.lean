/-
  Plain laws of matching lines: the nearest line of a sorted list; no program in sight.
-/
import Derived.Test.YtgkgdnocleajcaaPlain
namespace Go.Proofs.Ytgkgdnocleajcaa.Plain
set_option linter.unusedVariables false
set_option linter.unusedSimpArgs false

def lth (l : List Ln) (i : Nat) : Ln := l.getD i ⟨0, 0, 0⟩
theorem lth_eq {l : List Ln} {i : Nat} (h : i < l.length) : lth l i = l[i] := by simp [lth, List.getD_eq_getElem?_getD, List.getElem?_eq_getElem h]
theorem lth_mem {l : List Ln} {i : Nat} (h : i < l.length) : lth l i ∈ l := by rw [lth_eq h]; exact List.getElem_mem h
/-- how many of the first places do not have a property -/
def firstNot (p : Nat → Bool) (n : Nat) : Nat := (List.range n).countP fun i => !p i
theorem firstNot_succ (p : Nat → Bool) (n : Nat) : firstNot p (n + 1) = firstNot p n + (if p n = true then 0 else 1) := by
  unfold firstNot
  rw [List.range_succ, List.countP_append]
  cases h : p n <;> simp [h]
theorem firstNot_le (p : Nat → Bool) (n : Nat) : firstNot p n ≤ n := by
  induction n with
  | zero => simp [firstNot]
  | succ n ih => rw [firstNot_succ]; split <;> omega
/-- a property that stays: the count is the first place that has it -/
theorem firstNot_spec {p : Nat → Bool} {n : Nat} (hm : ∀ a b, a ≤ b → b < n → p a = true → p b = true) : (∀ i, i < firstNot p n → p i = false) ∧ (∀ i, firstNot p n ≤ i → i < n → p i = true) := by
  induction n with
  | zero => simp [firstNot]
  | succ n ih =>
    have ih := ih (fun a b h1 h2 h3 => hm a b h1 (by omega) h3)
    have hle := firstNot_le p n
    rw [firstNot_succ]
    cases hp : p n
    · have hall : firstNot p n = n := by
        rcases Nat.lt_or_eq_of_le hle with g | g
        · have := hm (firstNot p n) n hle (by omega) (ih.2 _ (Nat.le_refl _) g)
          rw [hp] at this
          cases this
        · exact g
      rw [hall] at ih ⊢
      simp only [Bool.false_eq_true, if_false]
      refine ⟨fun i hi => ?_, fun i h1 h2 => by omega⟩
      rcases Nat.lt_or_eq_of_le (Nat.le_of_lt_succ hi) with g | rfl
      · exact ih.1 i g
      · exact hp
    · simp only [if_true, Nat.add_zero]
      refine ⟨ih.1, fun i h1 h2 => ?_⟩
      rcases Nat.lt_or_eq_of_le (Nat.le_of_lt_succ h2) with g | rfl
      · exact ih.2 i h1 g
      · exact hp
/-- ascending wave numbers -/
def Asc (l : List Ln) : Prop := ∀ a b, a ≤ b → b < l.length → (lth l a).n ≤ (lth l b).n
theorem asc_of {l : List Ln} (h : l.Pairwise (fun x y => le x y = true)) : Asc l := by
  intro a b hab hb
  rcases Nat.lt_or_eq_of_le hab with g | rfl
  · have := List.pairwise_iff_getElem.1 h a b (by omega) hb g
    rw [le_iff] at this
    rw [lth_eq (by omega), lth_eq hb]
    omega
  · exact Int.le_refl _
theorem lines_asc (ns : List Nd) : Asc (linesOf ns) := asc_of (lines_pw ns)
/-- the first place whose wave number is at least a number -/
def firstAt (l : List Ln) (x : Int) : Nat := firstNot (fun i => decide (x ≤ (lth l i).n)) l.length
theorem firstAt_le (l : List Ln) (x : Int) : firstAt l x ≤ l.length := firstNot_le _ _
theorem firstAt_mono {l : List Ln} (h : Asc l) (x : Int) : ∀ a b, a ≤ b → b < l.length → decide (x ≤ (lth l a).n) = true → decide (x ≤ (lth l b).n) = true := by
  intro a b h1 h2 h3
  have := h a b h1 h2
  simp at *
  omega
theorem firstAt_spec {l : List Ln} (h : Asc l) (x : Int) : (∀ i, i < firstAt l x → (lth l i).n < x) ∧ (∀ i, firstAt l x ≤ i → i < l.length → x ≤ (lth l i).n) := by
  have := firstNot_spec (p := fun i => decide (x ≤ (lth l i).n)) (n := l.length) (firstAt_mono h x)
  refine ⟨fun i hi => ?_, fun i h1 h2 => ?_⟩
  · have := this.1 i hi
    simp at this
    omega
  · have := this.2 i h1 h2
    simpa using this

def off (l : List Ln) (x : Int) (i : Nat) : Int := absD ((lth l i).n - x)
/-- r is the first nearest place, or -1 where none is near enough -/
def IsBest (l : List Ln) (x t r : Int) : Prop :=
  (r = -1 ∧ ∀ i, i < l.length → t < off l x i) ∨ ∃ k : Nat, r = k ∧ k < l.length ∧ off l x k ≤ t ∧ (∀ i, i < l.length → off l x k ≤ off l x i) ∧ ∀ i, i < k → off l x k < off l x i
theorem isBest_unique {l : List Ln} {x t r s : Int} (h1 : IsBest l x t r) (h2 : IsBest l x t s) : r = s := by
  rcases h1 with ⟨rfl, a1⟩ | ⟨k, rfl, k1, k2, k3, k4⟩
  · rcases h2 with ⟨rfl, _⟩ | ⟨m, rfl, m1, m2, _, _⟩
    · rfl
    · have := a1 m m1
      omega
  · rcases h2 with ⟨rfl, a2⟩ | ⟨m, rfl, m1, m2, m3, m4⟩
    · have := a2 k k1
      omega
    · rcases Nat.lt_trichotomy k m with g | g | g
      · have h := m4 k g
        have := k3 m m1
        omega
      · rw [g]
      · have h := k4 m g
        have := m3 k k1
        omega
/-- the reference's loop -/
def bestTo (l : List Ln) (x t : Int) : Nat → Int
  | 0 => -1
  | k + 1 => if off l x k ≤ t ∧ (bestTo l x t k < 0 ∨ off l x k < off l x (bestTo l x t k).toNat) then (k : Int) else bestTo l x t k
theorem bestTo_bounds (l : List Ln) (x t : Int) (k : Nat) : -1 ≤ bestTo l x t k ∧ bestTo l x t k < k := by
  induction k with
  | zero => simp [bestTo]
  | succ k ih => unfold bestTo; split <;> omega
theorem bestTo_spec (l : List Ln) (x t : Int) (k : Nat) : (bestTo l x t k = -1 ∧ ∀ i, i < k → t < off l x i) ∨ ∃ m : Nat, bestTo l x t k = m ∧ m < k ∧ off l x m ≤ t ∧ (∀ i, i < k → off l x m ≤ off l x i) ∧ ∀ i, i < m → off l x m < off l x i := by
  induction k with
  | zero => exact .inl ⟨rfl, fun i h => by omega⟩
  | succ k ih =>
    unfold bestTo
    rcases ih with ⟨h1, h2⟩ | ⟨m, h1, h2, h3, h4, h5⟩
    · rw [h1]
      by_cases ht : off l x k ≤ t
      · rw [if_pos ⟨ht, .inl (by omega)⟩]
        refine .inr ⟨k, rfl, by omega, ht, fun i hi => ?_, fun i hi => ?_⟩
        · rcases Nat.lt_or_eq_of_le (Nat.le_of_lt_succ hi) with g | rfl
          · have := h2 i g; omega
          · exact Int.le_refl _
        · have := h2 i hi; omega
      · rw [if_neg (fun h => ht h.1)]
        refine .inl ⟨rfl, fun i hi => ?_⟩
        rcases Nat.lt_or_eq_of_le (Nat.le_of_lt_succ hi) with g | rfl
        · exact h2 i g
        · omega
    · rw [h1, Int.toNat_natCast]
      by_cases hc : off l x k < off l x m
      · rw [if_pos ⟨by omega, .inr hc⟩]
        refine .inr ⟨k, rfl, by omega, by omega, fun i hi => ?_, fun i hi => ?_⟩
        · rcases Nat.lt_or_eq_of_le (Nat.le_of_lt_succ hi) with g | rfl
          · have := h4 i g; omega
          · exact Int.le_refl _
        · have := h4 i hi; omega
      · rw [if_neg (by rintro ⟨_, h | h⟩ <;> omega)]
        refine .inr ⟨m, rfl, by omega, h3, fun i hi => ?_, h5⟩
        rcases Nat.lt_or_eq_of_le (Nat.le_of_lt_succ hi) with g | rfl
        · exact h4 i g
        · omega
theorem bestTo_isBest (l : List Ln) (x t : Int) : IsBest l x t (bestTo l x t l.length) := by
  rcases bestTo_spec l x t l.length with h | ⟨m, h1, h2, h3, h4, h5⟩
  · exact .inl h
  · exact .inr ⟨m, h1, h2, h3, h4, h5⟩
/-- the program's way: the place ahead, the place behind -/
def nearL (l : List Ln) (x : Int) : Int :=
  let at' := firstAt l x
  let b : Int := if 0 < at' then (firstAt l (lth l (at' - 1)).n : Int) else -1
  if at' < l.length ∧ (b < 0 ∨ (lth l at').n - x < x - (lth l b.toNat).n) then (at' : Int) else b
def nearest (l : List Ln) (x t : Int) : Int := if 0 ≤ nearL l x ∧ t < off l x (nearL l x).toNat then -1 else nearL l x
theorem absD_pos {n : Int} (h : 0 ≤ n) : absD n = n := by unfold absD; split <;> omega
theorem absD_neg {n : Int} (h : n ≤ 0) : absD n = 0 - n := by unfold absD; split <;> omega
theorem nearL_spec {l : List Ln} (h : Asc l) (x : Int) : (nearL l x = -1 ∧ l.length = 0) ∨ ∃ k : Nat, nearL l x = k ∧ k < l.length ∧ (∀ i, i < l.length → off l x k ≤ off l x i) ∧ ∀ i, i < k → off l x k < off l x i := by
  have hf := firstAt_spec h x
  have hle := firstAt_le l x
  have lo : ∀ i, i < firstAt l x → off l x i = x - (lth l i).n := fun i hi => by
    have := hf.1 i hi
    unfold off
    rw [absD_neg (by omega)]
    omega
  have hi' : ∀ i, firstAt l x ≤ i → i < l.length → off l x i = (lth l i).n - x := fun i h1 h2 => by
    have := hf.2 i h1 h2
    unfold off
    rw [absD_pos (by omega)]
  unfold nearL
  simp only
  by_cases h0 : 0 < firstAt l x
  · have hq : firstAt l x - 1 < l.length := by omega
    have hg := firstAt_spec h (lth l (firstAt l x - 1)).n
    have hgle : firstAt l (lth l (firstAt l x - 1)).n ≤ firstAt l x - 1 := by
      rcases Nat.lt_or_ge (firstAt l x - 1) (firstAt l (lth l (firstAt l x - 1)).n) with g | g
      · have := hg.1 _ g
        omega
      · exact g
    have hbl : firstAt l (lth l (firstAt l x - 1)).n < l.length := by omega
    have hbn : (lth l (firstAt l (lth l (firstAt l x - 1)).n)).n = (lth l (firstAt l x - 1)).n := by
      have h1 := hg.2 _ (Nat.le_refl _) hbl
      have h2 := h _ _ hgle hq
      omega
    generalize hb : firstAt l (lth l (firstAt l x - 1)).n = b at *
    have hbx : b < firstAt l x := by omega
    have least : ∀ i, i < firstAt l x → off l x b ≤ off l x i := fun i hi => by
      rw [lo b hbx, lo i hi]
      have := h i (firstAt l x - 1) (by omega) hq
      omega
    have first : ∀ i, i < b → off l x b < off l x i := fun i hi => by
      rw [lo b hbx, lo i (by omega)]
      have := hg.1 i hi
      omega
    rw [if_pos h0, Int.toNat_natCast]
    by_cases hc : firstAt l x < l.length ∧ ((b : Int) < 0 ∨ (lth l (firstAt l x)).n - x < x - (lth l b).n)
    · rw [if_pos hc]
      have hcc : off l x (firstAt l x) < off l x b := by
        rw [lo b hbx, hi' _ (Nat.le_refl _) hc.1]
        rcases hc.2 with g | g <;> omega
      refine .inr ⟨firstAt l x, rfl, hc.1, fun i hi => ?_, fun i hi => ?_⟩
      · by_cases hix : i < firstAt l x
        · have := least i hix; omega
        · rw [hi' _ (Nat.le_refl _) hc.1, hi' i (by omega) hi]
          have := h (firstAt l x) i (by omega) hi
          omega
      · have := least i hi; omega
    · rw [if_neg hc]
      refine .inr ⟨b, rfl, hbl, fun i hi => ?_, first⟩
      by_cases hix : i < firstAt l x
      · exact least i hix
      · have hlt : firstAt l x < l.length := by omega
        have hn : ¬ ((lth l (firstAt l x)).n - x < x - (lth l b).n) := fun g => hc ⟨hlt, .inr g⟩
        rw [lo b hbx, hi' i (by omega) hi]
        have := h (firstAt l x) i (by omega) hi
        omega
  · have h00 : firstAt l x = 0 := by omega
    rw [if_neg h0, h00]
    rw [h00] at hi' lo hf
    by_cases hl : 0 < l.length
    · rw [if_pos ⟨hl, .inl (by omega)⟩]
      refine .inr ⟨0, rfl, hl, fun i hi => ?_, fun i hi => by omega⟩
      rw [hi' 0 (by omega) hl, hi' i (by omega) hi]
      have := h 0 i (by omega) hi
      omega
    · rw [if_neg (fun g => hl g.1)]
      exact .inl ⟨rfl, by omega⟩
theorem nearest_isBest {l : List Ln} (h : Asc l) (x t : Int) : IsBest l x t (nearest l x t) := by
  unfold nearest
  rcases nearL_spec h x with ⟨h1, h2⟩ | ⟨k, h1, h2, h3, h4⟩
  · rw [h1, if_neg (by omega)]
    exact .inl ⟨rfl, fun i hi => by omega⟩
  · rw [h1, Int.toNat_natCast]
    by_cases ht : t < off l x k
    · rw [if_pos ⟨by omega, ht⟩]
      exact .inl ⟨rfl, fun i hi => by have := h3 i hi; omega⟩
    · rw [if_neg (fun g => ht g.2)]
      exact .inr ⟨k, rfl, h2, by omega, h3, h4⟩
theorem nearest_bestTo {l : List Ln} (h : Asc l) (x t : Int) : nearest l x t = bestTo l x t l.length := isBest_unique (nearest_isBest h x t) (bestTo_isBest l x t)
theorem nearest_bounds {l : List Ln} (h : Asc l) (x t : Int) : -1 ≤ nearest l x t ∧ nearest l x t < l.length := by
  rw [nearest_bestTo h]
  exact bestTo_bounds l x t l.length

/-! ### lines that match -/
def matching (l : List Ln) (x t : Int) : List Ln := l.filter fun y => decide (absD (y.n - x) ≤ t)
theorem filter_range {l : List Ln} (p : Ln → Bool) (a b : Nat) (hab : a ≤ b) (hb : b ≤ l.length) (h1 : ∀ i, i < a → p (lth l i) = false) (h2 : ∀ i, a ≤ i → i < b → p (lth l i) = true) (h3 : ∀ i, b ≤ i → i < l.length → p (lth l i) = false) : l.filter p = (l.drop a).take (b - a) := by
  have e : l = l.take a ++ ((l.drop a).take (b - a) ++ l.drop b) := by
    have : l.drop b = (l.drop a).drop (b - a) := by rw [List.drop_drop]; congr 1; omega
    rw [this, List.take_append_drop, List.take_append_drop]
  have f1 : (l.take a).filter p = [] := by
    rw [List.filter_eq_nil_iff]
    intro y hy
    obtain ⟨i, hi, rfl⟩ := List.getElem_of_mem hy
    have hi' : i < a := by simp at hi; omega
    rw [List.getElem_take, ← lth_eq (by omega)]
    simp [h1 i hi']
  have f2 : ((l.drop a).take (b - a)).filter p = (l.drop a).take (b - a) := by
    rw [List.filter_eq_self]
    intro y hy
    obtain ⟨i, hi, rfl⟩ := List.getElem_of_mem hy
    have hi' : i < b - a := by simp at hi; omega
    rw [List.getElem_take, List.getElem_drop, ← lth_eq (by omega)]
    exact h2 _ (by omega) (by omega)
  have f3 : (l.drop b).filter p = [] := by
    rw [List.filter_eq_nil_iff]
    intro y hy
    obtain ⟨i, hi, rfl⟩ := List.getElem_of_mem hy
    have hi' : b + i < l.length := by simp at hi; omega
    rw [List.getElem_drop, ← lth_eq hi']
    simp [h3 _ (by omega) hi']
  refine (congrArg (List.filter p) e).trans ?_
  rw [List.filter_append, List.filter_append, f1, f2, f3]
  simp
theorem nearest_self {l : List Ln} (h : Asc l) {k : Nat} (hk : k < l.length) (hf : k = 0 ∨ (lth l (k - 1)).n ≠ (lth l k).n) : nearest l (lth l k).n 0 = k := by
  have z : off l (lth l k).n k = 0 := by unfold off; rw [Int.sub_self]; rfl
  have nn : ∀ i, 0 ≤ off l (lth l k).n i := fun i => by unfold off absD; split <;> omega
  refine isBest_unique (nearest_isBest h _ _) (.inr ⟨k, rfl, hk, by omega, fun i _ => by rw [z]; exact nn i, fun i hi => ?_⟩)
  rw [z]
  have h1 := h i (k - 1) (by omega) (by omega)
  have h2 := h (k - 1) k (by omega) hk
  rcases hf with rfl | hf
  · omega
  · unfold off
    rw [absD_neg (by omega)]
    omega

end Go.Proofs.Ytgkgdnocleajcaa.Plain
