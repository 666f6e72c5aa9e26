/-
  Plain laws of connected nodes: a labelling of components, and the closure in rounds; no program in sight.
-/
import Derived.Test.YthdmpiioecogpaaPlain
namespace Go.Proofs.Ythdmpiioecogpaa.Plain
set_option linter.unusedVariables false
set_option linter.unusedSimpArgs false

theorem snoc_ind {α : Type} {P : List α → Prop} (nil : P []) (snoc : ∀ l x, P l → P (l ++ [x])) (l : List α) : P l := by
  have h : ∀ m : List α, P m.reverse := by
    intro m
    induction m with
    | nil => exact nil
    | cons x m ih => rw [List.reverse_cons]; exact snoc _ _ ih
  have := h l.reverse
  rwa [List.reverse_reverse] at this

/-- one join of a labelling -/
def joinC (c : Nat → Nat) (u l : Nat) : Nat → Nat := fun x => if c x = max (c u) (c l) then min (c u) (c l) else c x
def foldC (ls : List Ln) : Nat → Nat := ls.foldl (fun c x => joinC c x.u x.l) id
theorem foldC_nil : foldC [] = id := rfl
theorem foldC_snoc (ls : List Ln) (x : Ln) : foldC (ls ++ [x]) = joinC (foldC ls) x.u x.l := by simp [foldC]

/-- what a forest f of m numbers keeps of its labelling c -/
def Forest (m : Nat) (f c : Nat → Nat) : Prop := ∀ i, i < m → f i ≤ i ∧ c (f i) = c i ∧ (f i = i → c i = i) ∧ c i ≤ i
def upd (f : Nat → Nat) (i v : Nat) : Nat → Nat := fun x => if x = i then v else f x
theorem forest_id (m : Nat) : Forest m id id := fun i _ => ⟨Nat.le_refl _, rfl, fun _ => rfl, Nat.le_refl _⟩
theorem forest_root {m : Nat} {f c : Nat → Nat} (h : Forest m f c) {i : Nat} (hi : i < m) (hr : f i = i) : c i = i := (h i hi).2.2.1 hr
theorem forest_half {m : Nat} {f c : Nat → Nat} (h : Forest m f c) {i : Nat} (hi : i < m) : Forest m (upd f i (f (f i))) c := by
  intro x hx
  unfold upd
  have h1 := h x hx
  by_cases e : x = i
  · subst e
    have h2 := h (f x) (by omega)
    simp only [if_true]
    refine ⟨by omega, h2.2.1.trans h1.2.1, fun g => ?_, h1.2.2.2⟩
    have : f x = x := by omega
    exact h1.2.2.1 this
  · simp only [if_neg e]
    exact h1
theorem forest_label {m : Nat} {f c : Nat → Nat} (h : Forest m f c) : ∀ i, i < m → c (c i) = c i ∧ f (c i) = c i := by
  intro i
  induction i using Nat.strongRecOn with
  | _ i ih =>
    intro hi
    have h1 := h i hi
    by_cases e : f i = i
    · rw [h1.2.2.1 e]
      exact ⟨h1.2.2.1 e, e⟩
    · have := ih (f i) (by omega) (by omega)
      rw [h1.2.1] at this
      exact this
theorem forest_join {m : Nat} {f c : Nat → Nat} (h : Forest m f c) {u l : Nat} (hu : u < m) (hl : l < m) : Forest m (upd f (max (c u) (c l)) (min (c u) (c l))) (joinC c u l) := by
  have hcu := forest_label h u hu
  have hcl := forest_label h l hl
  have bu := (h u hu).2.2.2
  have bl := (h l hl).2.2.2
  have hmin : c (min (c u) (c l)) = min (c u) (c l) := by
    rcases Nat.le_total (c u) (c l) with g | g
    · rw [Nat.min_eq_left g]; exact hcu.1
    · rw [Nat.min_eq_right g]; exact hcl.1
  have hmax : c (max (c u) (c l)) = max (c u) (c l) := by
    rcases Nat.le_total (c u) (c l) with g | g
    · rw [Nat.max_eq_right g]; exact hcl.1
    · rw [Nat.max_eq_left g]; exact hcu.1
  intro x hx
  have h1 := h x hx
  unfold upd joinC
  by_cases e : x = max (c u) (c l)
  · subst e
    simp only [if_true]
    rw [hmin, hmax]
    simp only [if_true]
    refine ⟨by omega, ?_, fun g => g, by omega⟩
    split <;> rfl
  · simp only [if_neg e]
    rw [h1.2.1]
    refine ⟨h1.1, rfl, fun g => ?_, ?_⟩
    · have := h1.2.2.1 g
      rw [this, if_neg e]
    · split <;> omega

/-! ### the labels of joined nodes -/
theorem joinC_eq {c : Nat → Nat} {u l : Nat} : joinC c u l u = joinC c u l l := by
  unfold joinC
  rcases Nat.le_total (c u) (c l) with g | g
  · rw [Nat.max_eq_right g, Nat.min_eq_left g]
    simp only [if_true]
    split <;> rfl
  · rw [Nat.max_eq_left g, Nat.min_eq_right g]
    simp only [if_true]
    split <;> rfl
theorem joinC_keeps {c : Nat → Nat} {u l x y : Nat} (h : c x = c y) : joinC c u l x = joinC c u l y := by unfold joinC; rw [h]
theorem foldC_line {ls : List Ln} {x : Ln} (h : x ∈ ls) : foldC ls x.u = foldC ls x.l := by
  induction ls using snoc_ind with
  | nil => simp at h
  | snoc ls y ih =>
    rw [foldC_snoc]
    rcases List.mem_append.1 h with h | h
    · exact joinC_keeps (ih h)
    · obtain rfl : x = y := by simpa using h
      exact joinC_eq
/-- a set that no line leaves is a union of components -/
theorem foldC_closed {ls : List Ln} {S : Nat → Prop} (h : ∀ x ∈ ls, (S x.u ↔ S x.l)) : ∀ a b, foldC ls a = foldC ls b → (S a ↔ S b) := by
  induction ls using snoc_ind with
  | nil => intro a b e; rw [foldC_nil] at e; obtain rfl : a = b := e; exact Iff.rfl
  | snoc ls y ih =>
    intro a b e
    have ih' := ih (fun x hx => h x (List.mem_append_left _ hx))
    have hy := h y (by simp)
    rw [foldC_snoc] at e
    have key : ∀ z, foldC ls z = max (foldC ls y.u) (foldC ls y.l) ∨ foldC ls z = min (foldC ls y.u) (foldC ls y.l) → (S z ↔ S y.u) := by
      intro z hz
      have : foldC ls z = foldC ls y.u ∨ foldC ls z = foldC ls y.l := by omega
      rcases this with g | g
      · exact ih' _ _ g
      · exact (ih' _ _ g).trans hy.symm
    unfold joinC at e
    split at e
    · rename_i ga
      split at e
      · rename_i gb
        exact (key a (.inl ga)).trans (key b (.inl gb)).symm
      · exact (key a (.inl ga)).trans (key b (.inr e.symm)).symm
    · split at e
      · rename_i gb
        exact (key a (.inr e)).trans (key b (.inl gb)).symm
      · exact ih' _ _ e
theorem foldC_le (ls : List Ln) (i : Nat) : foldC ls i ≤ i := by
  induction ls using snoc_ind with
  | nil => exact Nat.le_refl _
  | snoc ls y ih =>
    rw [foldC_snoc]
    unfold joinC
    split <;> omega
/-- which nodes are connected with the first one -/
def reach (ns : List Nd) (i : Nat) : Bool := foldC (linesOf ns) i == foldC (linesOf ns) 0
theorem reach_zero (ns : List Nd) : reach ns 0 = true := by simp [reach]
theorem reach_line {ns : List Nd} {x : Ln} (h : x ∈ linesOf ns) : reach ns x.u = reach ns x.l := by unfold reach; rw [foldC_line h]
theorem allow_comm (x y : Nd) : allow x y = allow y x := by
  rw [Bool.eq_iff_iff, allow_iff, allow_iff]
  constructor <;> rintro ⟨h1, h2, h3, h4⟩ <;> exact ⟨Ne.symm h1, by omega, by omega, h4.symm⟩
/-- two nodes with a line between them are connected alike -/
theorem reach_allow {ns : List Nd} (hs : schemeOk ns = true) {i k : Nat} (hi : i < ns.length) (hk : k < ns.length) (h : allow (nth ns i) (nth ns k) = true) : reach ns i = reach ns k := by
  rcases Nat.lt_trichotomy i k with g | g | g
  · exact (reach_line (x := lineAt ns k i) ((mem_lines hs).2 ⟨k, i, hk, g, by rw [allow_comm]; exact h, rfl⟩)).symm
  · subst g
    exact absurd rfl (allow_parts h).1
  · exact reach_line (x := lineAt ns i k) ((mem_lines hs).2 ⟨i, k, hi, g, h, rfl⟩)
/-- a connected node that is not the first one has a line with a connected node -/
theorem reach_why {ns : List Nd} {i : Nat} (h0 : i ≠ 0) (h : reach ns i = true) : ∃ x ∈ linesOf ns, (x.u = i ∧ reach ns x.l = true) ∨ (x.l = i ∧ reach ns x.u = true) := by
  by_cases hx : ∃ x ∈ linesOf ns, x.u = i ∨ x.l = i
  · obtain ⟨x, hm, hx⟩ := hx
    refine ⟨x, hm, ?_⟩
    have hr := reach_line hm
    rcases hx with rfl | rfl
    · exact .inl ⟨rfl, hr ▸ h⟩
    · exact .inr ⟨rfl, hr.trans h⟩
  · exfalso
    have := foldC_closed (ls := linesOf ns) (S := fun a => a = i) (fun x hm => ⟨fun e => absurd ⟨x, hm, .inl e⟩ hx, fun e => absurd ⟨x, hm, .inr e⟩ hx⟩) i 0 (by simpa [reach] using h)
    exact h0 (this.1 rfl).symm

/-! ### the closure in rounds -/
/-- a closed set of flags that the closure keeps is what is connected -/
theorem closed_reach {ns : List Nd} (hs : schemeOk ns = true) {S : Nat → Bool} (h0 : S 0 = true) (hc : ∀ i k, i < ns.length → k < ns.length → S k = true → allow (nth ns i) (nth ns k) = true → S i = true) (hr : ∀ i, i < ns.length → S i = true → reach ns i = true) : ∀ i, i < ns.length → S i = reach ns i := by
  intro i hi
  cases hS : S i
  · cases hR : reach ns i
    · rfl
    · exfalso
      have hcl := foldC_closed (ls := linesOf ns) (S := fun a => S a = true) (fun x hm => by
        obtain ⟨h1, h2, h3, _, _, _⟩ := line_parts hm
        exact ⟨fun g => hc _ _ (by omega) h1 g (by rw [allow_comm]; exact h3), fun g => hc _ _ h1 (by omega) g h3⟩) i 0 (by simpa [reach] using hR)
      have := hcl.2 h0
      rw [hS] at this
      cases this
  · exact (hr i hi hS).symm
def cnt (S : Nat → Bool) (m : Nat) : Nat := ((List.range m).filter S).length
theorem cnt_succ (S : Nat → Bool) (m : Nat) : cnt S (m + 1) = cnt S m + (if S m = true then 1 else 0) := by
  unfold cnt
  rw [List.range_succ, List.filter_append]
  cases h : S m <;> simp [h]
theorem cnt_le (S : Nat → Bool) (m : Nat) : cnt S m ≤ m := by
  unfold cnt
  exact Nat.le_trans (List.length_filter_le _ _) (by simp)
theorem cnt_mono {S T : Nat → Bool} {m : Nat} (h : ∀ i, i < m → S i = true → T i = true) : cnt S m ≤ cnt T m := by
  induction m with
  | zero => simp [cnt]
  | succ m ih =>
    rw [cnt_succ, cnt_succ]
    have h1 := ih (fun i hi => h i (by omega))
    have h2 := h m (by omega)
    cases hS : S m
    · simp; omega
    · simp [h2 hS]; omega
theorem cnt_lt {S T : Nat → Bool} {m : Nat} (h : ∀ i, i < m → S i = true → T i = true) {k : Nat} (hk : k < m) (h1 : S k = false) (h2 : T k = true) : cnt S m < cnt T m := by
  induction m with
  | zero => omega
  | succ m ih =>
    rw [cnt_succ, cnt_succ]
    rcases Nat.lt_or_eq_of_le (Nat.le_of_lt_succ hk) with g | rfl
    · have h3 := ih (fun i hi => h i (by omega)) g
      have h4 := h m (by omega)
      cases hS : S m
      · simp; omega
      · simp [h4 hS]; omega
    · have h3 := cnt_mono (S := S) (T := T) (m := k) (fun i hi => h i (by omega))
      simp [h1, h2]
      omega
/-- flags: what the closure's rounds keep: connected nodes alone; the first one -/
def Flags (ns : List Nd) (S : Nat → Bool) : Prop := S 0 = true ∧ ∀ i, i < ns.length → S i = true → reach ns i = true
def Closed (ns : List Nd) (S : Nat → Bool) : Prop := ∀ i k, i < ns.length → k < ns.length → S k = true → allow (nth ns i) (nth ns k) = true → S i = true

end Go.Proofs.Ythdmpiioecogpaa.Plain
