/-
  Contracts of the laws' helpers on slices of Int: copies, comparison, marks.
-/
import Derived.Test.YtgkgdnocleajcaaLater
import Derived.WalkSpells
import Derived.RegionTactic
namespace Go.Proofs.Ytgkgdnocleajcaa.RowsInt
open Go.RowKit Go.Proofs.Ytgkgdnocleajcaa.Spin Go.Proofs.Ytgkgdnocleajcaa.Row Go.Proofs.Ytgkgdnocleajcaa.Later
set_option linter.unusedVariables false
set_option linter.unusedSimpArgs false

def encI (x : Int) : List Value := [.int .i64 x]
theorem encI_len (x : Int) : (encI x).length = 1 := rfl

theorem at_Int {w : World} {xs : List Int} {b o : Nat} (hcell : ∀ j, j < xs.length * 1 → w.cell? ⟨b, o + j, none⟩ = (xs.flatMap encI)[j]?) (i : Nat) (hi : i < xs.length) : w.cell? ⟨b, o + i, none⟩ = some (.int .i64 xs[i]) := by
  have g := fun j (hj : j < 1) => (hcell (i * 1 + j) (by omega)).trans (flat_get encI 1 encI_len xs i j hi hj)
  simp only [Nat.mul_one] at g
  exact g 0 (by omega)





end Go.Proofs.Ytgkgdnocleajcaa.RowsInt
