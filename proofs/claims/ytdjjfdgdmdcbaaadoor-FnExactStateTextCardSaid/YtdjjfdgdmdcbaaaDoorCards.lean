/-
  DERIVED. GIVEN WITH THE SEED: THE CARDS: each row of YtdjjfdgdmdcbaaaDoorRows.lean that lists a variable, with what it lists TIED to the program's text (the seventh form; the later family's looks); each row that meets fmt, with fmt's text TOLD by the authors' own Lean function (tested against real Go, not proved from fmt's source: count such statements apart). THE CARD IS WHAT COUNTS. Prove the row's statement (the work); the ties are given (YtdjjfdgdmdcbaaaDoorTie.lean); close each card by the builder's one call (the guide's Derived/Test/ToyasCard.lean, 'card_holds'). Laid BY PROGRAM, IN A SANDBOX (cutbox-door.mjs). By AI agents, Wed Nov 11 2026. No macro, syntax, notation, axiom, sorry.
-/
import Derived.Test.YtdjjfdgdmdcbaaaDoorRows
import GoSem.ClaimSeven
namespace Go.Proofs.YtdjjfdgdmdcbaaaDoor
namespace Rows

/-- THE TIED CARD OF 'laws.FnExactStateText'. -/
def fnExactStateTextCard : Claim7 := { stood := { row := fnExactStateTextRow, standIns := [], harness := (true, "d19c7bdcfb8d47be50fbdc1707d369b09b5685a4fbf00f9cbb13ca2645034687"), looks := false }, kinds := [], alts := [], laidByText := true, laidKinds := [.data, .data, .data], laidTests := true, laidLooks := .later }
def FnExactStateTextCardSaid : Prop := Claim7.holds Tryd.pinned (.plain (OpenSpec.ofChange fnExactStateTextSpec)) fnExactStateTextCard

/-- THE TIED CARD OF 'laws.FnStateText'. -/
def fnStateTextCard : Claim7 := { stood := { row := fnStateTextRow, standIns := [], harness := (true, "d19c7bdcfb8d47be50fbdc1707d369b09b5685a4fbf00f9cbb13ca2645034687"), looks := false }, kinds := [], alts := [], laidByText := true, laidKinds := [.data, .data, .data], laidTests := true, laidLooks := .later }
def FnStateTextCardSaid : Prop := Claim7.holds Tryd.pinned (.plain (OpenSpec.ofChange fnStateTextSpec)) fnStateTextCard

/-- THE SECOND FORM's CARD OF 'laws.FnExactStateText'. -/
def fnExactStateTextUptoCard : Claim7 := { stood := { row := fnExactStateTextUptoRow, standIns := [], harness := (true, "d19c7bdcfb8d47be50fbdc1707d369b09b5685a4fbf00f9cbb13ca2645034687"), looks := false }, kinds := [], alts := [], laidByText := true, laidKinds := [.data, .data, .data], laidTests := true, laidLooks := .later }
def FnExactStateTextUptoCardSaid : Prop := Claim7.holds Tryd.pinned (.plain (OpenSpec.upto fnExactStateTextSpec)) fnExactStateTextUptoCard

/-- THE SECOND FORM's CARD OF 'laws.FnStateText'. -/
def fnStateTextUptoCard : Claim7 := { stood := { row := fnStateTextUptoRow, standIns := [], harness := (true, "d19c7bdcfb8d47be50fbdc1707d369b09b5685a4fbf00f9cbb13ca2645034687"), looks := false }, kinds := [], alts := [], laidByText := true, laidKinds := [.data, .data, .data], laidTests := true, laidLooks := .later }
def FnStateTextUptoCardSaid : Prop := Claim7.holds Tryd.pinned (.plain (OpenSpec.upto fnStateTextSpec)) fnStateTextUptoCard
end Rows
end Go.Proofs.YtdjjfdgdmdcbaaaDoor
