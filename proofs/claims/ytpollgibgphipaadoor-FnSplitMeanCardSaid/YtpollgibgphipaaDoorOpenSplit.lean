/-
  An argument that is a slice of components: what its cells are.
-/
import Derived.Test.YtpollgibgphipaaDoorOpenRows
import Derived.Test.YtpollgibgphipaaDoorSplitDef
namespace Go.Proofs.YtpollgibgphipaaDoor.Open
open Go.ChangeShapes Go.WideShapes Go.Deep Go.RowKit Go.Proofs.YtpollgibgphipaaDoor.Row Go.Proofs.YtpollgibgphipaaDoor.SplitPlain Go.Proofs.YtpollgibgphipaaDoor.SplitDef
set_option linter.unusedVariables false


end Go.Proofs.YtpollgibgphipaaDoor.Open
