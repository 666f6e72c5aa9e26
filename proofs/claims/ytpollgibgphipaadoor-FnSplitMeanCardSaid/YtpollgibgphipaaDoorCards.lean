/-
  DERIVED. GIVEN WITH THE SEED: THE CARDS: each row of YtpollgibgphipaaDoorRows.lean that lists a variable, with what it lists TIED to the program's text (the seventh form; the later family's looks); each row that meets fmt, with fmt's text TOLD by the authors' own Lean function (tested against real Go, not proved from fmt's source: count such statements apart). THE CARD IS WHAT COUNTS. Prove the row's statement (the work); the ties are given (YtpollgibgphipaaDoorTie.lean); close each card by the builder's one call (the guide's Derived/Test/ToyasCard.lean, 'card_holds'). Laid BY PROGRAM, IN A SANDBOX (cutbox-door.mjs). By AI agents, Wed Nov 11 2026. No macro, syntax, notation, axiom, sorry.
-/
import Derived.Test.YtpollgibgphipaaDoorRows
import GoSem.ClaimSeven
namespace Go.Proofs.YtpollgibgphipaaDoor
namespace Rows

/-- THE TIED CARD OF 'laws.FnSplitMean'. -/
def fnSplitMeanCard : Claim7 := { stood := { row := fnSplitMeanRow, standIns := [], harness := (true, "472b69758c924edcfba86155d1050d79dc1a777b13e3e1be12f98d3505fdbf06"), looks := false }, kinds := [], alts := [], laidByText := true, laidKinds := [.sentinel, .sentinel], laidTests := true, laidLooks := .later }
def FnSplitMeanCardSaid : Prop := Claim7.holds Tryd.pinned (.plain (OpenSpec.ofChange fnSplitMeanSpec)) fnSplitMeanCard

/-- THE TIED CARD OF 'laws.FnSplitUpper'. -/
def fnSplitUpperCard : Claim7 := { stood := { row := fnSplitUpperRow, standIns := [], harness := (true, "472b69758c924edcfba86155d1050d79dc1a777b13e3e1be12f98d3505fdbf06"), looks := false }, kinds := [], alts := [], laidByText := true, laidKinds := [.sentinel, .sentinel], laidTests := true, laidLooks := .later }
def FnSplitUpperCardSaid : Prop := Claim7.holds Tryd.pinned (.plain (OpenSpec.ofChange fnSplitUpperSpec)) fnSplitUpperCard

/-- THE TIED CARD OF 'laws.FnSplitTotal'. -/
def fnSplitTotalCard : Claim7 := { stood := { row := fnSplitTotalRow, standIns := [], harness := (true, "472b69758c924edcfba86155d1050d79dc1a777b13e3e1be12f98d3505fdbf06"), looks := false }, kinds := [], alts := [], laidByText := true, laidKinds := [.sentinel, .sentinel], laidTests := true, laidLooks := .later }
def FnSplitTotalCardSaid : Prop := Claim7.holds Tryd.pinned (.plain (OpenSpec.ofChange fnSplitTotalSpec)) fnSplitTotalCard

/-- THE TIED CARD OF 'laws.FnSplitSums'. -/
def fnSplitSumsCard : Claim7 := { stood := { row := fnSplitSumsRow, standIns := [], harness := (true, "472b69758c924edcfba86155d1050d79dc1a777b13e3e1be12f98d3505fdbf06"), looks := false }, kinds := [], alts := [], laidByText := true, laidKinds := [.sentinel, .sentinel], laidTests := true, laidLooks := .later }
def FnSplitSumsCardSaid : Prop := Claim7.holds Tryd.pinned (.plain (OpenSpec.ofChange fnSplitSumsSpec)) fnSplitSumsCard

/-- THE TIED CARD OF 'laws.FnSplitSpanNormal'. -/
def fnSplitSpanNormalCard : Claim7 := { stood := { row := fnSplitSpanNormalRow, standIns := [], harness := (true, "472b69758c924edcfba86155d1050d79dc1a777b13e3e1be12f98d3505fdbf06"), looks := false }, kinds := [], alts := [], laidByText := true, laidKinds := [.sentinel, .sentinel], laidTests := true, laidLooks := .later }
def FnSplitSpanNormalCardSaid : Prop := Claim7.holds Tryd.pinned (.plain (OpenSpec.ofChange fnSplitSpanNormalSpec)) fnSplitSpanNormalCard

/-- THE SECOND FORM's CARD OF 'laws.FnSplitMean'. -/
def fnSplitMeanUptoCard : Claim7 := { stood := { row := fnSplitMeanUptoRow, standIns := [], harness := (true, "472b69758c924edcfba86155d1050d79dc1a777b13e3e1be12f98d3505fdbf06"), looks := false }, kinds := [], alts := [], laidByText := true, laidKinds := [.sentinel, .sentinel], laidTests := true, laidLooks := .later }
def FnSplitMeanUptoCardSaid : Prop := Claim7.holds Tryd.pinned (.plain (OpenSpec.upto fnSplitMeanSpec)) fnSplitMeanUptoCard

/-- THE SECOND FORM's CARD OF 'laws.FnSplitUpper'. -/
def fnSplitUpperUptoCard : Claim7 := { stood := { row := fnSplitUpperUptoRow, standIns := [], harness := (true, "472b69758c924edcfba86155d1050d79dc1a777b13e3e1be12f98d3505fdbf06"), looks := false }, kinds := [], alts := [], laidByText := true, laidKinds := [.sentinel, .sentinel], laidTests := true, laidLooks := .later }
def FnSplitUpperUptoCardSaid : Prop := Claim7.holds Tryd.pinned (.plain (OpenSpec.upto fnSplitUpperSpec)) fnSplitUpperUptoCard

/-- THE SECOND FORM's CARD OF 'laws.FnSplitTotal'. -/
def fnSplitTotalUptoCard : Claim7 := { stood := { row := fnSplitTotalUptoRow, standIns := [], harness := (true, "472b69758c924edcfba86155d1050d79dc1a777b13e3e1be12f98d3505fdbf06"), looks := false }, kinds := [], alts := [], laidByText := true, laidKinds := [.sentinel, .sentinel], laidTests := true, laidLooks := .later }
def FnSplitTotalUptoCardSaid : Prop := Claim7.holds Tryd.pinned (.plain (OpenSpec.upto fnSplitTotalSpec)) fnSplitTotalUptoCard

/-- THE SECOND FORM's CARD OF 'laws.FnSplitSums'. -/
def fnSplitSumsUptoCard : Claim7 := { stood := { row := fnSplitSumsUptoRow, standIns := [], harness := (true, "472b69758c924edcfba86155d1050d79dc1a777b13e3e1be12f98d3505fdbf06"), looks := false }, kinds := [], alts := [], laidByText := true, laidKinds := [.sentinel, .sentinel], laidTests := true, laidLooks := .later }
def FnSplitSumsUptoCardSaid : Prop := Claim7.holds Tryd.pinned (.plain (OpenSpec.upto fnSplitSumsSpec)) fnSplitSumsUptoCard

/-- THE SECOND FORM's CARD OF 'laws.FnSplitSpanNormal'. -/
def fnSplitSpanNormalUptoCard : Claim7 := { stood := { row := fnSplitSpanNormalUptoRow, standIns := [], harness := (true, "472b69758c924edcfba86155d1050d79dc1a777b13e3e1be12f98d3505fdbf06"), looks := false }, kinds := [], alts := [], laidByText := true, laidKinds := [.sentinel, .sentinel], laidTests := true, laidLooks := .later }
def FnSplitSpanNormalUptoCardSaid : Prop := Claim7.holds Tryd.pinned (.plain (OpenSpec.upto fnSplitSpanNormalSpec)) fnSplitSpanNormalUptoCard
end Rows
end Go.Proofs.YtpollgibgphipaaDoor
