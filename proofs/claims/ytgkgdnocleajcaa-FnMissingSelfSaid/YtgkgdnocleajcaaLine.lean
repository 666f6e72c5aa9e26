/-
  Lines of a scheme in memory.
-/
import Derived.Test.YtgkgdnocleajcaaNode
namespace Go.Proofs.Ytgkgdnocleajcaa.Line
open Go.RowKit Go.Proofs.Ytgkgdnocleajcaa.Spin Go.Proofs.Ytgkgdnocleajcaa.Row Go.Proofs.Ytgkgdnocleajcaa.Plain Go.Proofs.Ytgkgdnocleajcaa.Later Go.Proofs.Ytgkgdnocleajcaa.Node
set_option linter.unusedVariables false

def encLn (x : Ln) : List Value := [.int .i64 (x.u : Int), .int .i64 (x.l : Int), .int .i64 x.n]
theorem encLn_len (x : Ln) : (encLn x).length = 3 := rfl
theorem infoLine : (Try.prog.info? 39).map (fun i => (i.zero, i.size, i.bytes)) = some (some (.agg #[.int .i64 0, .int .i64 0, .int .i64 0]), 3, 24) := by kernel_rfl

end Go.Proofs.Ytgkgdnocleajcaa.Line
