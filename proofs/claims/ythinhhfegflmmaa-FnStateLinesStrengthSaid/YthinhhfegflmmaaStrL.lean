/-
  The lines of two terms are the pairs of levels with a strength.
-/
import Derived.Test.YthinhhfegflmmaaStrW
import Derived.Test.YthinhhfegflmmaaLinesCount
namespace Go.Proofs.Ythinhhfegflmmaa.StrL
open Go.RowKit Go.Proofs.Ythinhhfegflmmaa.RatP Go.Proofs.Ythinhhfegflmmaa.ChoP Go.Proofs.Ythinhhfegflmmaa.StrP Go.Proofs.Ythinhhfegflmmaa.Spin Go.Proofs.Ythinhhfegflmmaa.Coupled Go.Proofs.Ythinhhfegflmmaa.Allowed Go.Proofs.Ythinhhfegflmmaa.WFnAllowedStrength Go.Proofs.Ythinhhfegflmmaa.LinesCount
set_option linter.unusedVariables false
set_option linter.unusedSimpArgs false

def pairLaw (s l k : Int) : Bool := !decide (2 * l + s ≤ 6 ∧ 2 * k + s ≤ 6) || (levelJs s l).all fun j => (levelJs s k).all fun i => (lineS s l j s k i).ok && (decide (0 < (lineS s l j s k i).n) == lineB s l s k j i)
theorem pair_law : (ss.all fun s => ls.all fun l => ls.all fun k => pairLaw s l k) = true := by decide +kernel
theorem pair_facts {s l k : Int} (hs : 0 ≤ s ∧ s ≤ 3) (hl : 0 ≤ l ∧ l ≤ 2) (hk : 0 ≤ k ∧ k ≤ 2) (h1 : 2 * l + s ≤ 6) (h2 : 2 * k + s ≤ 6) : ∀ j ∈ levelJs s l, ∀ i ∈ levelJs s k, (lineS s l j s k i).ok = true ∧ decide (0 < (lineS s l j s k i).n) = lineB s l s k j i := by
  have h := List.all_eq_true.1 (List.all_eq_true.1 (List.all_eq_true.1 pair_law s (mem_ss hs)) l (mem_ls hl)) k (mem_ls hk)
  unfold pairLaw at h
  rw [decide_eq_true (show 2 * l + s ≤ 6 ∧ 2 * k + s ≤ 6 from ⟨h1, h2⟩)] at h
  simp only [Bool.not_true, Bool.false_or] at h
  intro j hj i hi
  have h3 := List.all_eq_true.1 (List.all_eq_true.1 h j hj) i hi
  simp only [Bool.and_eq_true, beq_iff_eq] at h3
  exact h3
end Go.Proofs.Ythinhhfegflmmaa.StrL
