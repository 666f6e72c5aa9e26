/-
  The walks of the laws on valid schemes.
-/
import Derived.Test.YthdmpiioecogpaaOpenNode
import Derived.Test.YthdmpiioecogpaaRowsNode
namespace Go.Proofs.Ythdmpiioecogpaa.SchemeLaws
open Go.RowKit Go.Proofs.Ythdmpiioecogpaa.Spin Go.Proofs.Ythdmpiioecogpaa.Row Go.Proofs.Ythdmpiioecogpaa.Plain Go.Proofs.Ythdmpiioecogpaa.Later Go.Proofs.Ythdmpiioecogpaa.Node Go.Proofs.Ythdmpiioecogpaa.RowsNode
set_option linter.unusedVariables false

/-- the law returns true; what was there is as it was -/
def Yes (w : World) (e : Ending) (w' : World) : Prop := e = .returned (.bool true) ∧ Below w.heap.size w w'

theorem sees_len {w : World} {k : Nat} {v : Value} {n : Nat} {cs : List Value} (h : Sees w k v n cs) : n ≤ 9223372036854775807 := by
  rcases h.2 with ⟨rfl, _⟩ | ⟨b, o, c, _, h1, h2, _⟩
  · omega
  · unfold maxLen at h2; omega


end Go.Proofs.Ythdmpiioecogpaa.SchemeLaws
