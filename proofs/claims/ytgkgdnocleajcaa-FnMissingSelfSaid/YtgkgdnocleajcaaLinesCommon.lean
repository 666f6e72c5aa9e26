/-
  The walks of the laws on the lines of drawn schemes.
-/
import Derived.Test.YtgkgdnocleajcaaLinesHelp
import Derived.Test.YtgkgdnocleajcaaLinesP
import Derived.Test.YtgkgdnocleajcaaSchemeLaws
namespace Go.Proofs.Ytgkgdnocleajcaa.LinesCommon
open Go.RowKit Go.Proofs.Ytgkgdnocleajcaa.Spin Go.Proofs.Ytgkgdnocleajcaa.Row Go.Proofs.Ytgkgdnocleajcaa.Plain Go.Proofs.Ytgkgdnocleajcaa.Later Go.Proofs.Ytgkgdnocleajcaa.Node Go.Proofs.Ytgkgdnocleajcaa.Line Go.Proofs.Ytgkgdnocleajcaa.LinesFn Go.Proofs.Ytgkgdnocleajcaa.LinesS Go.Proofs.Ytgkgdnocleajcaa.LinesP Go.Proofs.Ytgkgdnocleajcaa.RowsLine Go.Proofs.Ytgkgdnocleajcaa.RowsNode Go.Proofs.Ytgkgdnocleajcaa.Rd Go.Proofs.Ytgkgdnocleajcaa.DrawScheme Go.Proofs.Ytgkgdnocleajcaa.LinesHelp Go.Proofs.Ytgkgdnocleajcaa.SchemeLaws
set_option linter.unusedVariables false
set_option linter.unusedSimpArgs false

theorem nth_get {ns : List Nd} {i : Nat} (h : i < ns.length) : nth ns i = ns[i] := by simp [nth, List.getD_eq_getElem?_getD, List.getElem?_eq_getElem h]
theorem sees_mk {α : Type} {enc : α → List Value} {k : Nat} (hk : ∀ x, (enc x).length = k) {w : World} {g o c : Nat} {xs : List α} (h1 : xs.length ≤ c) (h2 : c ≤ maxLen) (h3 : g < w.heap.size) (h4 : ∀ j, j < xs.length * k → w.cell? ⟨g, o + j, none⟩ = (xs.flatMap enc)[j]?) : Sees w k (.slice (some ⟨g, o, none⟩) xs.length c) xs.length (xs.flatMap enc) :=
  ⟨flat_length enc k hk xs, .inr ⟨g, o, c, rfl, h1, h2, h3, h4⟩⟩
theorem sees_take {α : Type} {enc : α → List Value} {k : Nat} (hk : ∀ x, (enc x).length = k) {w : World} {g o n c : Nat} {xs : List α} (hn : n = xs.length) (h : Sees w k (.slice (some ⟨g, o, none⟩) n c) n (xs.flatMap enc)) (m : Nat) (h0 : 0 < m) (hm : m ≤ n) : Sees w k (.slice (some ⟨g, o, none⟩) m c) (xs.take m).length ((xs.take m).flatMap enc) := by
  have hl : (xs.take m).length = m := by rw [List.length_take]; omega
  rcases h.2 with ⟨h1, _⟩ | ⟨b, o', c', hv, h1, h2, h3, h4⟩
  · omega
  · cases hv
    refine ⟨flat_length enc k hk _, .inr ⟨g, o, c, by rw [hl], by omega, h2, h3, ?_⟩⟩
    intro j hj
    rw [hl] at hj
    rw [h4 j (Nat.lt_of_lt_of_le hj (Nat.mul_le_mul_right k hm)), flat_take' enc k hk xs m (by omega), List.getElem?_take_of_lt hj]

end Go.Proofs.Ytgkgdnocleajcaa.LinesCommon
