/-
  Lines of a scheme in memory.
-/
import Derived.Test.YthdmpiioecogpaaNode
namespace Go.Proofs.Ythdmpiioecogpaa.Line
open Go.RowKit Go.Proofs.Ythdmpiioecogpaa.Spin Go.Proofs.Ythdmpiioecogpaa.Row Go.Proofs.Ythdmpiioecogpaa.Plain Go.Proofs.Ythdmpiioecogpaa.Later Go.Proofs.Ythdmpiioecogpaa.Node
set_option linter.unusedVariables false

def encLn (x : Ln) : List Value := [.int .i64 (x.u : Int), .int .i64 (x.l : Int), .int .i64 x.n]
theorem encLn_len (x : Ln) : (encLn x).length = 3 := rfl
theorem infoLine : (Try.prog.info? 31).map (fun i => (i.zero, i.size, i.bytes)) = some (some (.agg #[.int .i64 0, .int .i64 0, .int .i64 0]), 3, 24) := by kernel_rfl

end Go.Proofs.Ythdmpiioecogpaa.Line
