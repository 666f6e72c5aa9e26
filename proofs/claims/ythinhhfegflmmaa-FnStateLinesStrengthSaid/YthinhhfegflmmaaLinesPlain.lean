/-
  The plain law on the number of lines between two terms: it is the same in both directions, at most three for each level, and 0 for two spins.
-/
import Derived.Test.YthinhhfegflmmaaLinesCount
namespace Go.Proofs.Ythinhhfegflmmaa.LinesPlain
open Go.RowKit Go.Proofs.Ythinhhfegflmmaa.Spin Go.Proofs.Ythinhhfegflmmaa.Coupled Go.Proofs.Ythinhhfegflmmaa.Allowed Go.Proofs.Ythinhhfegflmmaa.LinesCount
set_option linter.unusedVariables false
set_option linter.unusedSimpArgs false

/-- the law at one pair of terms with one spin -/
def good (s l m : Nat) : Bool := decide (lines (s : Int) (l : Int) (s : Int) (m : Int) = lines (s : Int) (m : Int) (s : Int) (l : Int)) && decide (lines (s : Int) (l : Int) (s : Int) (m : Int) ≤ 3 * (levelJs (s : Int) (l : Int)).length)
def allGood : Bool := (List.range 9).all fun s => (List.range 9).all fun l => (List.range 9).all fun m => good s l m
set_option maxRecDepth 100000 in
theorem all_good : allGood = true := by decide +kernel

theorem good_at {s l m : Nat} (hs : s < 9) (hl : l < 9) (hm : m < 9) : good s l m = true := by
  have h := all_good
  unfold allGood at h
  rw [List.all_eq_true] at h
  have h1 := h s (List.mem_range.2 hs)
  rw [List.all_eq_true] at h1
  have h2 := h1 l (List.mem_range.2 hl)
  rw [List.all_eq_true] at h2
  exact h2 m (List.mem_range.2 hm)

theorem sum_zero : ∀ {l : List Nat}, (∀ x ∈ l, x = 0) → l.sum = 0
  | [], _ => rfl
  | x :: l, h => by rw [List.sum_cons, h x (by simp), sum_zero (fun y hy => h y (by simp [hy]))]

theorem lines_zero {s1 l1 s2 l2 : Int} (h : ∀ i ∈ levelJs s1 l1, ∀ j ∈ levelJs s2 l2, lineB s1 l1 s2 l2 i j = false) : lines s1 l1 s2 l2 = 0 := by
  unfold lines allOf
  refine sum_zero (fun x hx => ?_)
  obtain ⟨i, hi, rfl⟩ := List.mem_map.1 hx
  unfold rowOf
  exact List.countP_eq_zero.2 (fun j hj => by simp [h i hi j hj])

theorem lines_parts {s1 l1 s2 l2 : Int} (h : lines s1 l1 s2 l2 ≠ 0) : termOk s1 l1 = true ∧ termOk s2 l2 = true ∧ s1 = s2 := by
  refine ⟨?_, ?_, ?_⟩
  · cases ht : termOk s1 l1
    · exact absurd (lines_zero (fun i hi => by rw [levelJs_no ht] at hi; cases hi)) h
    · rfl
  · cases ht : termOk s2 l2
    · exact absurd (lines_zero (fun i _ j hj => by rw [levelJs_no ht] at hj; cases hj)) h
    · rfl
  · refine Classical.byContradiction fun hne => h (lines_zero fun i _ j _ => ?_)
    simp [lineB, allowed, hne]

theorem lines_law {s1 l1 s2 l2 : Int} (h : lines s1 l1 s2 l2 ≠ 0) : lines s2 l2 s1 l1 = lines s1 l1 s2 l2 ∧ lines s1 l1 s2 l2 ≤ 3 * (levelJs s1 l1).length ∧ lines s1 l1 s2 l2 ≤ 3 * (levelJs s2 l2).length ∧ s1 = s2 := by
  obtain ⟨t1, t2, rfl⟩ := lines_parts h
  have q1 := termOk_true.1 t1
  have q2 := termOk_true.1 t2
  obtain ⟨s, rfl⟩ := Int.eq_ofNat_of_zero_le q1.1.1
  obtain ⟨l, rfl⟩ := Int.eq_ofNat_of_zero_le q1.2.1
  obtain ⟨m, rfl⟩ := Int.eq_ofNat_of_zero_le q2.2.1
  have g1 := good_at (s := s) (l := l) (m := m) (by omega) (by omega) (by omega)
  have g2 := good_at (s := s) (l := m) (m := l) (by omega) (by omega) (by omega)
  simp only [good, Bool.and_eq_true, decide_eq_true_eq] at g1 g2
  exact ⟨g1.1.symm, g1.2, by rw [g1.1]; exact g2.2, rfl⟩

end Go.Proofs.Ythinhhfegflmmaa.LinesPlain
