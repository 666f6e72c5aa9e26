/-
  An argument that is a slice of components: what its cells are.
-/
import Derived.Test.YtdejlinldocfjaaDoorOpenRows
import Derived.Test.YtdejlinldocfjaaDoorSplitDef
namespace Go.Proofs.YtdejlinldocfjaaDoor.Open
open Go.ChangeShapes Go.WideShapes Go.Deep Go.RowKit Go.Proofs.YtdejlinldocfjaaDoor.Row Go.Proofs.YtdejlinldocfjaaDoor.SplitPlain Go.Proofs.YtdejlinldocfjaaDoor.SplitDef
set_option linter.unusedVariables false


end Go.Proofs.YtdejlinldocfjaaDoor.Open
