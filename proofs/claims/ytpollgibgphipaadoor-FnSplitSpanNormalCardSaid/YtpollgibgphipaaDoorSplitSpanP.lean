/-
  Contracts of SplitSpan, the program's and the reference's.
-/
import Derived.Test.YtpollgibgphipaaDoorSplitR
import Derived.Test.YtpollgibgphipaaDoorSplitLaws
import Derived.Test.YtpollgibgphipaaDoorTwo
namespace Go.Proofs.YtpollgibgphipaaDoor.SplitSpan
open Go.RowKit Go.Proofs.YtpollgibgphipaaDoor.RatP Go.Proofs.YtpollgibgphipaaDoor.Rat Go.Proofs.YtpollgibgphipaaDoor.Spin Go.Proofs.YtpollgibgphipaaDoor.Row Go.Proofs.YtpollgibgphipaaDoor.Later Go.Proofs.YtpollgibgphipaaDoor.SplitPlain Go.Proofs.YtpollgibgphipaaDoor.SplitDef Go.Proofs.YtpollgibgphipaaDoor.SplitP Go.Proofs.YtpollgibgphipaaDoor.RowsSplit Go.Proofs.YtpollgibgphipaaDoor.Two
set_option linter.unusedVariables false
set_option linter.unusedSimpArgs false

/-- what is left to look at -/
theorem span_nil {xs : List Sp} (h : xs.length = 0) : spanL xs = bad := by rw [List.eq_nil_of_length_eq_zero h]; rfl
theorem span_start {xs : List Sp} (h : 0 < xs.length) : spanL xs = spanFrom ⟨xs[0].p, xs[0].q, true⟩ ⟨xs[0].p, xs[0].q, true⟩ (shs (xs.drop 0)) := by
  cases xs with
  | nil => simp at h
  | cons x xs => rfl
theorem span_next {xs : List Sp} {m : Nat} (hm : m < xs.length) (lo hi : Ro) : spanFrom lo hi (shs (xs.drop m)) = if ratOk xs[m].p xs[m].q = true then spanFrom (if lessR xs[m].p xs[m].q lo.n lo.d = true then ⟨xs[m].p, xs[m].q, true⟩ else lo) (if lessR hi.n hi.d xs[m].p xs[m].q = true then ⟨xs[m].p, xs[m].q, true⟩ else hi) (shs (xs.drop (m + 1))) else bad := by
  rw [List.drop_eq_getElem_cons hm]; rfl
theorem span_end {xs : List Sp} {m : Nat} (hm : xs.length ≤ m) (lo hi : Ro) : spanFrom lo hi (shs (xs.drop m)) = subR hi.n hi.d lo.n lo.d := by
  rw [List.drop_eq_nil_of_le hm]; rfl
theorem less_cmp {a b c d : Int} (h1 : ratOk a b = true) (h2 : ratOk c d = true) : (lessR a b c d = true ∧ cmpI (a * d) (c * b) < 0) ∨ (lessR a b c d = false ∧ ¬ cmpI (a * d) (c * b) < 0) := by
  rw [less_yes h1 h2]
  unfold cmpI
  by_cases h : a * d < c * b
  · left; simp [h]
  · right; simp [h]; split <;> omega
theorem less_cmp' {a b c d : Int} (h1 : ratOk a b = true) (h2 : ratOk c d = true) : (lessR c d a b = true ∧ 0 < cmpI (a * d) (c * b)) ∨ (lessR c d a b = false ∧ ¬ 0 < cmpI (a * d) (c * b)) := by
  rw [less_yes h2 h1]
  unfold cmpI
  by_cases h : c * b < a * d
  · left; simp [h]; split <;> omega
  · right; simp [h]; split <;> omega

end Go.Proofs.YtpollgibgphipaaDoor.SplitSpan
