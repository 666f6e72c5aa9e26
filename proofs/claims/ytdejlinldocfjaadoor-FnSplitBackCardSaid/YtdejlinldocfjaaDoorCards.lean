/-
  DERIVED. GIVEN WITH THE SEED: THE CARDS: each row of YtdejlinldocfjaaDoorRows.lean that lists a variable, with what it lists TIED to the program's text (the seventh form; the later family's looks); each row that meets fmt, with fmt's text TOLD by the authors' own Lean function (tested against real Go, not proved from fmt's source: count such statements apart). THE CARD IS WHAT COUNTS. Prove the row's statement (the work); the ties are given (YtdejlinldocfjaaDoorTie.lean); close each card by the builder's one call (the guide's Derived/Test/ToyasCard.lean, 'card_holds'). Laid BY PROGRAM, IN A SANDBOX (cutbox-door.mjs). By AI agents, Wed Nov 11 2026. No macro, syntax, notation, axiom, sorry.
-/
import Derived.Test.YtdejlinldocfjaaDoorRows
import GoSem.ClaimSeven
namespace Go.Proofs.YtdejlinldocfjaaDoor
namespace Rows

/-- THE TIED CARD OF 'laws.FnExactSplitOf'. -/
def fnExactSplitOfCard : Claim7 := { stood := { row := fnExactSplitOfRow, standIns := [], harness := (true, "e602afb229074c66433a566c70381af53386488739ff1b1af4630554e27f40a8"), looks := false }, kinds := [], alts := [], laidByText := true, laidKinds := [.sentinel, .sentinel], laidTests := true, laidLooks := .later }
def FnExactSplitOfCardSaid : Prop := Claim7.holds Tryd.pinned (.plain (OpenSpec.ofChange fnExactSplitOfSpec)) fnExactSplitOfCard

/-- THE TIED CARD OF 'laws.FnSplit'. -/
def fnSplitCard : Claim7 := { stood := { row := fnSplitRow, standIns := [], harness := (true, "e602afb229074c66433a566c70381af53386488739ff1b1af4630554e27f40a8"), looks := false }, kinds := [], alts := [], laidByText := true, laidKinds := [.sentinel, .sentinel], laidTests := true, laidLooks := .later }
def FnSplitCardSaid : Prop := Claim7.holds Tryd.pinned (.plain (OpenSpec.ofChange fnSplitSpec)) fnSplitCard

/-- THE TIED CARD OF 'laws.FnSplitMirror'. -/
def fnSplitMirrorCard : Claim7 := { stood := { row := fnSplitMirrorRow, standIns := [], harness := (true, "e602afb229074c66433a566c70381af53386488739ff1b1af4630554e27f40a8"), looks := false }, kinds := [], alts := [], laidByText := true, laidKinds := [.sentinel, .sentinel], laidTests := true, laidLooks := .later }
def FnSplitMirrorCardSaid : Prop := Claim7.holds Tryd.pinned (.plain (OpenSpec.ofChange fnSplitMirrorSpec)) fnSplitMirrorCard

/-- THE TIED CARD OF 'laws.FnSplitMiddle'. -/
def fnSplitMiddleCard : Claim7 := { stood := { row := fnSplitMiddleRow, standIns := [], harness := (true, "e602afb229074c66433a566c70381af53386488739ff1b1af4630554e27f40a8"), looks := false }, kinds := [], alts := [], laidByText := true, laidKinds := [.sentinel, .sentinel], laidTests := true, laidLooks := .later }
def FnSplitMiddleCardSaid : Prop := Claim7.holds Tryd.pinned (.plain (OpenSpec.ofChange fnSplitMiddleSpec)) fnSplitMiddleCard

/-- THE TIED CARD OF 'laws.FnSplitNormal'. -/
def fnSplitNormalCard : Claim7 := { stood := { row := fnSplitNormalRow, standIns := [], harness := (true, "e602afb229074c66433a566c70381af53386488739ff1b1af4630554e27f40a8"), looks := false }, kinds := [], alts := [], laidByText := true, laidKinds := [.sentinel, .sentinel], laidTests := true, laidLooks := .later }
def FnSplitNormalCardSaid : Prop := Claim7.holds Tryd.pinned (.plain (OpenSpec.ofChange fnSplitNormalSpec)) fnSplitNormalCard

/-- THE TIED CARD OF 'laws.FnSplitBack'. -/
def fnSplitBackCard : Claim7 := { stood := { row := fnSplitBackRow, standIns := [], harness := (true, "e602afb229074c66433a566c70381af53386488739ff1b1af4630554e27f40a8"), looks := false }, kinds := [], alts := [], laidByText := true, laidKinds := [.sentinel, .sentinel], laidTests := true, laidLooks := .later }
def FnSplitBackCardSaid : Prop := Claim7.holds Tryd.pinned (.plain (OpenSpec.ofChange fnSplitBackSpec)) fnSplitBackCard

/-- THE SECOND FORM's CARD OF 'laws.FnExactSplitOf'. -/
def fnExactSplitOfUptoCard : Claim7 := { stood := { row := fnExactSplitOfUptoRow, standIns := [], harness := (true, "e602afb229074c66433a566c70381af53386488739ff1b1af4630554e27f40a8"), looks := false }, kinds := [], alts := [], laidByText := true, laidKinds := [.sentinel, .sentinel], laidTests := true, laidLooks := .later }
def FnExactSplitOfUptoCardSaid : Prop := Claim7.holds Tryd.pinned (.plain (OpenSpec.upto fnExactSplitOfSpec)) fnExactSplitOfUptoCard

/-- THE SECOND FORM's CARD OF 'laws.FnSplit'. -/
def fnSplitUptoCard : Claim7 := { stood := { row := fnSplitUptoRow, standIns := [], harness := (true, "e602afb229074c66433a566c70381af53386488739ff1b1af4630554e27f40a8"), looks := false }, kinds := [], alts := [], laidByText := true, laidKinds := [.sentinel, .sentinel], laidTests := true, laidLooks := .later }
def FnSplitUptoCardSaid : Prop := Claim7.holds Tryd.pinned (.plain (OpenSpec.upto fnSplitSpec)) fnSplitUptoCard

/-- THE SECOND FORM's CARD OF 'laws.FnSplitMirror'. -/
def fnSplitMirrorUptoCard : Claim7 := { stood := { row := fnSplitMirrorUptoRow, standIns := [], harness := (true, "e602afb229074c66433a566c70381af53386488739ff1b1af4630554e27f40a8"), looks := false }, kinds := [], alts := [], laidByText := true, laidKinds := [.sentinel, .sentinel], laidTests := true, laidLooks := .later }
def FnSplitMirrorUptoCardSaid : Prop := Claim7.holds Tryd.pinned (.plain (OpenSpec.upto fnSplitMirrorSpec)) fnSplitMirrorUptoCard

/-- THE SECOND FORM's CARD OF 'laws.FnSplitMiddle'. -/
def fnSplitMiddleUptoCard : Claim7 := { stood := { row := fnSplitMiddleUptoRow, standIns := [], harness := (true, "e602afb229074c66433a566c70381af53386488739ff1b1af4630554e27f40a8"), looks := false }, kinds := [], alts := [], laidByText := true, laidKinds := [.sentinel, .sentinel], laidTests := true, laidLooks := .later }
def FnSplitMiddleUptoCardSaid : Prop := Claim7.holds Tryd.pinned (.plain (OpenSpec.upto fnSplitMiddleSpec)) fnSplitMiddleUptoCard

/-- THE SECOND FORM's CARD OF 'laws.FnSplitNormal'. -/
def fnSplitNormalUptoCard : Claim7 := { stood := { row := fnSplitNormalUptoRow, standIns := [], harness := (true, "e602afb229074c66433a566c70381af53386488739ff1b1af4630554e27f40a8"), looks := false }, kinds := [], alts := [], laidByText := true, laidKinds := [.sentinel, .sentinel], laidTests := true, laidLooks := .later }
def FnSplitNormalUptoCardSaid : Prop := Claim7.holds Tryd.pinned (.plain (OpenSpec.upto fnSplitNormalSpec)) fnSplitNormalUptoCard

/-- THE SECOND FORM's CARD OF 'laws.FnSplitBack'. -/
def fnSplitBackUptoCard : Claim7 := { stood := { row := fnSplitBackUptoRow, standIns := [], harness := (true, "e602afb229074c66433a566c70381af53386488739ff1b1af4630554e27f40a8"), looks := false }, kinds := [], alts := [], laidByText := true, laidKinds := [.sentinel, .sentinel], laidTests := true, laidLooks := .later }
def FnSplitBackUptoCardSaid : Prop := Claim7.holds Tryd.pinned (.plain (OpenSpec.upto fnSplitBackSpec)) fnSplitBackUptoCard
end Rows
end Go.Proofs.YtdejlinldocfjaaDoor
