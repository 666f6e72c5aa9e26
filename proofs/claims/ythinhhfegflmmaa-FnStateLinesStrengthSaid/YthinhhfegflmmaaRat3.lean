/-
  Rationals: the contract of the program's difference.
-/
import Derived.Test.YthinhhfegflmmaaRat2
namespace Go.Proofs.Ythinhhfegflmmaa.Rat
open Go.RowKit Go.Proofs.Ythinhhfegflmmaa.RatP Go.Proofs.Ythinhhfegflmmaa.Spin Go.Proofs.Ythinhhfegflmmaa.Row Go.Proofs.Ythinhhfegflmmaa.Later
set_option linter.unusedVariables false
set_option linter.unusedSimpArgs false


end Go.Proofs.Ythinhhfegflmmaa.Rat
