/-
  Contracts of the laws' helpers on slices of states: comparison, marks.
-/
import Derived.Test.YthinhhfegflmmaaStates
import Derived.WalkSpells
namespace Go.Proofs.Ythinhhfegflmmaa.StatesEq
open Go.RowKit Go.Proofs.Ythinhhfegflmmaa.Spin Go.Proofs.Ythinhhfegflmmaa.Row Go.Proofs.Ythinhhfegflmmaa.Coupled Go.Proofs.Ythinhhfegflmmaa.States
set_option linter.unusedVariables false
set_option linter.unusedSimpArgs false

/-- four cells of the k-th element of a row -/
theorem row4 {w : World} {cs : List Value} {n b o : Nat} (hl : cs.length = n * 4) (hcell : ∀ j, j < n * 4 → w.cell? ⟨b, o + j, none⟩ = cs[j]?) (k : Nat) (hk : k < n) :
    ∃ c0 c1 c2 c3, cs[k * 4]? = some c0 ∧ cs[k * 4 + 1]? = some c1 ∧ cs[k * 4 + 2]? = some c2 ∧ cs[k * 4 + 3]? = some c3 ∧
      w.cell? ⟨b, o + k * 4, none⟩ = some c0 ∧ w.cell? ⟨b, o + k * 4 + 1, none⟩ = some c1 ∧ w.cell? ⟨b, o + k * 4 + 2, none⟩ = some c2 ∧ w.cell? ⟨b, o + k * 4 + 3, none⟩ = some c3 := by
  have g := fun j (hj : j < 4) => hcell (k * 4 + j) (by omega)
  have e := fun j (hj : j < 4) => List.getElem?_eq_getElem (l := cs) (i := k * 4 + j) (by omega)
  exact ⟨_, _, _, _, e 0 (by omega), e 1 (by omega), e 2 (by omega), e 3 (by omega), (g 0 (by omega)).trans (e 0 (by omega)), (g 1 (by omega)).trans (e 1 (by omega)), (g 2 (by omega)).trans (e 2 (by omega)), (g 3 (by omega)).trans (e 3 (by omega))⟩

/-- the cells of the k-th state in its row -/
theorem state_cells {w : World} {s l : Int} {odd : Bool} {js : List Int} {b o : Nat} (hcell : ∀ j, j < js.length * 4 → w.cell? ⟨b, o + j, none⟩ = (js.flatMap (encS s l odd))[j]?) (k : Nat) (hk : k < js.length) :
    w.cell? ⟨b, o + k * 4, none⟩ = some (.int .i64 s) ∧ w.cell? ⟨b, o + k * 4 + 1, none⟩ = some (.int .i64 l) ∧ w.cell? ⟨b, o + k * 4 + 2, none⟩ = some (.int .i64 js[k]) ∧ w.cell? ⟨b, o + k * 4 + 3, none⟩ = some (.bool odd) := by
  have g := fun j (hj : j < 4) => (hcell (k * 4 + j) (by omega)).trans (flat_get (encS s l odd) 4 (encS_len s l odd) js k j hk hj)
  exact ⟨g 0 (by omega), g 1 (by omega), g 2 (by omega), g 3 (by omega)⟩





end Go.Proofs.Ythinhhfegflmmaa.StatesEq
