/-
  Common words of the laws on components.
-/
import Derived.Test.YtpollgibgphipaaDoorOpenSplit
import Derived.Test.YtpollgibgphipaaDoorRowsSplit
namespace Go.Proofs.YtpollgibgphipaaDoor.SplitLaws
open Go.RowKit Go.Proofs.YtpollgibgphipaaDoor.Spin Go.Proofs.YtpollgibgphipaaDoor.Row
set_option linter.unusedVariables false
set_option linter.unusedSimpArgs false
def Yes (w : World) (e : Ending) (w' : World) : Prop := e = .returned (.bool true) ∧ Below w.heap.size w w'
theorem sees_len {w : World} {k : Nat} {v : Value} {n : Nat} {cs : List Value} (h : Sees w k v n cs) : n ≤ 9223372036854775807 := by
  rcases h.2 with ⟨rfl, _⟩ | ⟨b, o, c, rfl, h1, h2, _⟩
  · omega
  · unfold maxLen at h2; omega
end Go.Proofs.YtpollgibgphipaaDoor.SplitLaws
