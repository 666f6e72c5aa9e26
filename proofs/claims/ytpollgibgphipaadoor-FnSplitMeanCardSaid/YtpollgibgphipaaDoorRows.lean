/-
  NARROWER THAN 'FOR EVERY INPUT', by the rows' own cells (each row's printed sentence says how): FnSplitMean: ifaces, laid · FnSplitUpper: ifaces, laid · FnSplitTotal: ifaces, laid · FnSplitSums: ifaces, laid · FnSplitSpanNormal: ifaces, laid.
  DERIVED. THE GIVEN ROWS OF THIS SEAT. 5 by the template 'for every input the law returns true; each argument reads behind the call as it read before'; 0 by the template 'total and deterministic' (their statements: YtpollgibgphipaaDoorTotals.lean).
  GIVEN WITH THE SEED: the statements are not yours to turn. If you find one false, say at which input.
  Laid BY PROGRAM, IN A SANDBOX (cutbox-rows.mjs): the forced cells as the released guide's own fill.sh prints them over the translation 7e39d2e24dbc43ab… (all of the seat's roots in one cut). By AI agents, Wed Nov 11 2026. No macro, syntax, notation, axiom, sorry.
-/
import Derived.Test.YtpollgibgphipaaDoorChecked
import GoSem.Claim
import GoSem.ClaimJoined
import GoSem.ClaimMapViews
import Derived.JoinedTies
import Derived.KernelRfl
namespace Go.Proofs.YtpollgibgphipaaDoor
/- THE CELL 'sum', in the pinned program and in every row, IS THE sha256 OF THE DUMP (.gsa) THAT YtpollgibgphipaaDoorProg.lean LOADS. Nothing in Lean hashes anything: it is a label: what it is worth is what the hold of that sum in a sandbox is worth. -/
noncomputable def Tryd.pinned : Pinned := { name := "ytpollgibgphipaadoor", sum := "7e39d2e24dbc43ab654ca7d666ffe605b4024cc766d86d2a843fbb9fe2541874", checked := Tryd.checked }
namespace Rows
def none {H : Type} : Left H := { results := [], args := [] }

/- WHAT THE LISTED PACKAGE-LEVEL VARIABLES READ AS WHEN THE CALL BEGINS. Each datum BY PROGRAM (the guide's laid-datum.mjs) off the statement by which the dump's own 'gosem.cut.vars' lays the variable. In a bare row this is a premise. The card (YtpollgibgphipaaDoorCards.lean) ties it to the program's text. -/
def laid_loop_example_atomicspectra_impl_errLevel {H : Type} : DataW H := .iface "*errors.errorString" (.ptr (.agg [.lit (.string [110, 111, 32, 108, 101, 118, 101, 108])]))
def laid_loop_example_atomicspectra_impl_errAtRest {H : Type} : DataW H := .iface "*errors.errorString" (.ptr (.agg [.lit (.string [110, 111, 32, 97, 110, 103, 117, 108, 97, 114, 32, 109, 111, 109, 101, 110, 116, 117, 109])]))

/-- 'laws.FnSplitMean': WHATEVER THE INPUT: true; the input reads as it did. -/
def fnSplitMeanSpec : ChangeSpec := { name := "fnSplitMean", vars := ["loop.example/atomicspectra/impl.errLevel", "loop.example/atomicspectra/impl.errAtRest"], fn := fun _ => fun
  | [d, g1, g2] => { results := [.lit (.bool true)], args := [d], vars := [g1, g2] }
  | _ => none }
def fnSplitMeanRow : OpenClaim := { program := "ytpollgibgphipaadoor", sum := "7e39d2e24dbc43ab654ca7d666ffe605b4024cc766d86d2a843fbb9fe2541874", func := "loop.example/atomicspectra/laws.FnSplitMean", spec := "fnSplitMean", unfollowed := true, recurses := true, named := ["loop.example/atomicspectra/impl.errLevel", "loop.example/atomicspectra/impl.errAtRest"], ifaces := true, apart := false, laid := [("loop.example/atomicspectra/impl.errLevel", laid_loop_example_atomicspectra_impl_errLevel), ("loop.example/atomicspectra/impl.errAtRest", laid_loop_example_atomicspectra_impl_errAtRest)] }
def FnSplitMeanSaid : Prop := fnSplitMeanRow.holds Tryd.pinned (OpenSpec.ofChange fnSplitMeanSpec)

/-- ITS FALSE NEIGHBOUR: 'it returns false'. Refute it at one input. -/
def fnSplitMeanWrong : ChangeSpec := { name := "fnSplitMean", vars := ["loop.example/atomicspectra/impl.errLevel", "loop.example/atomicspectra/impl.errAtRest"], fn := fun _ => fun
  | [d, g1, g2] => { results := [.lit (.bool false)], args := [d], vars := [g1, g2] }
  | _ => none }
def FnSplitMeanWrongFalsely : Prop := fnSplitMeanRow.holds Tryd.pinned (OpenSpec.ofChange fnSplitMeanWrong)

/-- 'laws.FnSplitUpper': WHATEVER THE INPUT: true; the input reads as it did. -/
def fnSplitUpperSpec : ChangeSpec := { name := "fnSplitUpper", vars := ["loop.example/atomicspectra/impl.errLevel", "loop.example/atomicspectra/impl.errAtRest"], fn := fun _ => fun
  | [d1, d2, g1, g2] => { results := [.lit (.bool true)], args := [d1, d2], vars := [g1, g2] }
  | _ => none }
def fnSplitUpperRow : OpenClaim := { program := "ytpollgibgphipaadoor", sum := "7e39d2e24dbc43ab654ca7d666ffe605b4024cc766d86d2a843fbb9fe2541874", func := "loop.example/atomicspectra/laws.FnSplitUpper", spec := "fnSplitUpper", unfollowed := true, recurses := true, named := ["loop.example/atomicspectra/impl.errLevel", "loop.example/atomicspectra/impl.errAtRest"], ifaces := true, apart := false, laid := [("loop.example/atomicspectra/impl.errLevel", laid_loop_example_atomicspectra_impl_errLevel), ("loop.example/atomicspectra/impl.errAtRest", laid_loop_example_atomicspectra_impl_errAtRest)] }
def FnSplitUpperSaid : Prop := fnSplitUpperRow.holds Tryd.pinned (OpenSpec.ofChange fnSplitUpperSpec)

/-- ITS FALSE NEIGHBOUR: 'it returns false'. Refute it at one input. -/
def fnSplitUpperWrong : ChangeSpec := { name := "fnSplitUpper", vars := ["loop.example/atomicspectra/impl.errLevel", "loop.example/atomicspectra/impl.errAtRest"], fn := fun _ => fun
  | [d1, d2, g1, g2] => { results := [.lit (.bool false)], args := [d1, d2], vars := [g1, g2] }
  | _ => none }
def FnSplitUpperWrongFalsely : Prop := fnSplitUpperRow.holds Tryd.pinned (OpenSpec.ofChange fnSplitUpperWrong)

/-- 'laws.FnSplitTotal': WHATEVER THE INPUT: true; the input reads as it did. -/
def fnSplitTotalSpec : ChangeSpec := { name := "fnSplitTotal", vars := ["loop.example/atomicspectra/impl.errLevel", "loop.example/atomicspectra/impl.errAtRest"], fn := fun _ => fun
  | [d1, d2, g1, g2] => { results := [.lit (.bool true)], args := [d1, d2], vars := [g1, g2] }
  | _ => none }
def fnSplitTotalRow : OpenClaim := { program := "ytpollgibgphipaadoor", sum := "7e39d2e24dbc43ab654ca7d666ffe605b4024cc766d86d2a843fbb9fe2541874", func := "loop.example/atomicspectra/laws.FnSplitTotal", spec := "fnSplitTotal", unfollowed := true, recurses := true, named := ["loop.example/atomicspectra/impl.errLevel", "loop.example/atomicspectra/impl.errAtRest"], ifaces := true, apart := false, laid := [("loop.example/atomicspectra/impl.errLevel", laid_loop_example_atomicspectra_impl_errLevel), ("loop.example/atomicspectra/impl.errAtRest", laid_loop_example_atomicspectra_impl_errAtRest)] }
def FnSplitTotalSaid : Prop := fnSplitTotalRow.holds Tryd.pinned (OpenSpec.ofChange fnSplitTotalSpec)

/-- ITS FALSE NEIGHBOUR: 'it returns false'. Refute it at one input. -/
def fnSplitTotalWrong : ChangeSpec := { name := "fnSplitTotal", vars := ["loop.example/atomicspectra/impl.errLevel", "loop.example/atomicspectra/impl.errAtRest"], fn := fun _ => fun
  | [d1, d2, g1, g2] => { results := [.lit (.bool false)], args := [d1, d2], vars := [g1, g2] }
  | _ => none }
def FnSplitTotalWrongFalsely : Prop := fnSplitTotalRow.holds Tryd.pinned (OpenSpec.ofChange fnSplitTotalWrong)

/-- 'laws.FnSplitSums': WHATEVER THE INPUT: true; the input reads as it did. -/
def fnSplitSumsSpec : ChangeSpec := { name := "fnSplitSums", vars := ["loop.example/atomicspectra/impl.errLevel", "loop.example/atomicspectra/impl.errAtRest"], fn := fun _ => fun
  | [d, g1, g2] => { results := [.lit (.bool true)], args := [d], vars := [g1, g2] }
  | _ => none }
def fnSplitSumsRow : OpenClaim := { program := "ytpollgibgphipaadoor", sum := "7e39d2e24dbc43ab654ca7d666ffe605b4024cc766d86d2a843fbb9fe2541874", func := "loop.example/atomicspectra/laws.FnSplitSums", spec := "fnSplitSums", unfollowed := true, recurses := true, named := ["loop.example/atomicspectra/impl.errLevel", "loop.example/atomicspectra/impl.errAtRest"], ifaces := true, apart := false, laid := [("loop.example/atomicspectra/impl.errLevel", laid_loop_example_atomicspectra_impl_errLevel), ("loop.example/atomicspectra/impl.errAtRest", laid_loop_example_atomicspectra_impl_errAtRest)] }
def FnSplitSumsSaid : Prop := fnSplitSumsRow.holds Tryd.pinned (OpenSpec.ofChange fnSplitSumsSpec)

/-- ITS FALSE NEIGHBOUR: 'it returns false'. Refute it at one input. -/
def fnSplitSumsWrong : ChangeSpec := { name := "fnSplitSums", vars := ["loop.example/atomicspectra/impl.errLevel", "loop.example/atomicspectra/impl.errAtRest"], fn := fun _ => fun
  | [d, g1, g2] => { results := [.lit (.bool false)], args := [d], vars := [g1, g2] }
  | _ => none }
def FnSplitSumsWrongFalsely : Prop := fnSplitSumsRow.holds Tryd.pinned (OpenSpec.ofChange fnSplitSumsWrong)

/-- 'laws.FnSplitSpanNormal': WHATEVER THE INPUT: true; the input reads as it did. -/
def fnSplitSpanNormalSpec : ChangeSpec := { name := "fnSplitSpanNormal", vars := ["loop.example/atomicspectra/impl.errLevel", "loop.example/atomicspectra/impl.errAtRest"], fn := fun _ => fun
  | [d, g1, g2] => { results := [.lit (.bool true)], args := [d], vars := [g1, g2] }
  | _ => none }
def fnSplitSpanNormalRow : OpenClaim := { program := "ytpollgibgphipaadoor", sum := "7e39d2e24dbc43ab654ca7d666ffe605b4024cc766d86d2a843fbb9fe2541874", func := "loop.example/atomicspectra/laws.FnSplitSpanNormal", spec := "fnSplitSpanNormal", unfollowed := true, recurses := true, named := ["loop.example/atomicspectra/impl.errLevel", "loop.example/atomicspectra/impl.errAtRest"], ifaces := true, apart := false, laid := [("loop.example/atomicspectra/impl.errLevel", laid_loop_example_atomicspectra_impl_errLevel), ("loop.example/atomicspectra/impl.errAtRest", laid_loop_example_atomicspectra_impl_errAtRest)] }
def FnSplitSpanNormalSaid : Prop := fnSplitSpanNormalRow.holds Tryd.pinned (OpenSpec.ofChange fnSplitSpanNormalSpec)

/-- ITS FALSE NEIGHBOUR: 'it returns false'. Refute it at one input. -/
def fnSplitSpanNormalWrong : ChangeSpec := { name := "fnSplitSpanNormal", vars := ["loop.example/atomicspectra/impl.errLevel", "loop.example/atomicspectra/impl.errAtRest"], fn := fun _ => fun
  | [d, g1, g2] => { results := [.lit (.bool false)], args := [d], vars := [g1, g2] }
  | _ => none }
def FnSplitSpanNormalWrongFalsely : Prop := fnSplitSpanNormalRow.holds Tryd.pinned (OpenSpec.ofChange fnSplitSpanNormalWrong)

/- THE SECOND FORM. 'bulk': how many values and letters a reading holds, each counted each time it is reached (what is shared counts as often as it is met; a slice's spare places count too). A statement '..UptoSaid' is the law's where the arguments, and the package variables that the reading takes, are together of bulk at most 1048576: NARROWER than '..Said'. Prove '..Said' where nothing that the law and all that it calls make is longer than what came in: it says more and counts as full. Else prove '..UptoSaid'. A law counts once. -/
mutual
def uptoBulk {H : Type} : DataW H → Nat
  | .lit (.string bytes) => bytes.length + 1
  | .lit _ => 1
  | .nil => 1
  | .ptr d => uptoBulk d + 1
  | .slice elems spare => uptoBulkAll elems + uptoBulkAll spare + 1
  | .agg parts => uptoBulkAll parts + 1
  | .iface _ d => uptoBulk d + 1
  | .map entries => uptoBulkEntries entries + 1
  | .held _ => 1
def uptoBulkAll {H : Type} : List (DataW H) → Nat
  | [] => 0
  | d :: r => uptoBulk d + uptoBulkAll r
def uptoBulkEntries {H : Type} : List (Lit × DataW H) → Nat
  | [] => 0
  | x :: r => uptoBulkEntry x + uptoBulkEntries r
def uptoBulkEntry {H : Type} : Lit × DataW H → Nat
  | (.string bytes, d) => bytes.length + uptoBulk d + 1
  | (_, d) => uptoBulk d + 1
 end
def uptoSmall : (H : Type) → List (DataW H) → Bool := fun _ ds => decide (uptoBulkAll ds ≤ 1048576)
def OpenSpec.upto (s : _root_.Go.ChangeSpec) : _root_.Go.OpenSpec := { _root_.Go.OpenSpec.ofChange s with cond := some uptoSmall }

/-- 'laws.FnSplitMean', WHERE WHAT IT READS IS OF BULK AT MOST 1048576: true; the input reads as it did. -/
def fnSplitMeanUptoRow : OpenClaim := { program := "ytpollgibgphipaadoor", sum := "7e39d2e24dbc43ab654ca7d666ffe605b4024cc766d86d2a843fbb9fe2541874", func := "loop.example/atomicspectra/laws.FnSplitMean", spec := "fnSplitMean", unfollowed := true, recurses := true, named := ["loop.example/atomicspectra/impl.errLevel", "loop.example/atomicspectra/impl.errAtRest"], ifaces := true, apart := false, laid := [("loop.example/atomicspectra/impl.errLevel", laid_loop_example_atomicspectra_impl_errLevel), ("loop.example/atomicspectra/impl.errAtRest", laid_loop_example_atomicspectra_impl_errAtRest)], narrowed := true }
def FnSplitMeanUptoSaid : Prop := fnSplitMeanUptoRow.holds Tryd.pinned (OpenSpec.upto fnSplitMeanSpec)

/-- 'laws.FnSplitUpper', WHERE WHAT IT READS IS OF BULK AT MOST 1048576: true; the input reads as it did. -/
def fnSplitUpperUptoRow : OpenClaim := { program := "ytpollgibgphipaadoor", sum := "7e39d2e24dbc43ab654ca7d666ffe605b4024cc766d86d2a843fbb9fe2541874", func := "loop.example/atomicspectra/laws.FnSplitUpper", spec := "fnSplitUpper", unfollowed := true, recurses := true, named := ["loop.example/atomicspectra/impl.errLevel", "loop.example/atomicspectra/impl.errAtRest"], ifaces := true, apart := false, laid := [("loop.example/atomicspectra/impl.errLevel", laid_loop_example_atomicspectra_impl_errLevel), ("loop.example/atomicspectra/impl.errAtRest", laid_loop_example_atomicspectra_impl_errAtRest)], narrowed := true }
def FnSplitUpperUptoSaid : Prop := fnSplitUpperUptoRow.holds Tryd.pinned (OpenSpec.upto fnSplitUpperSpec)

/-- 'laws.FnSplitTotal', WHERE WHAT IT READS IS OF BULK AT MOST 1048576: true; the input reads as it did. -/
def fnSplitTotalUptoRow : OpenClaim := { program := "ytpollgibgphipaadoor", sum := "7e39d2e24dbc43ab654ca7d666ffe605b4024cc766d86d2a843fbb9fe2541874", func := "loop.example/atomicspectra/laws.FnSplitTotal", spec := "fnSplitTotal", unfollowed := true, recurses := true, named := ["loop.example/atomicspectra/impl.errLevel", "loop.example/atomicspectra/impl.errAtRest"], ifaces := true, apart := false, laid := [("loop.example/atomicspectra/impl.errLevel", laid_loop_example_atomicspectra_impl_errLevel), ("loop.example/atomicspectra/impl.errAtRest", laid_loop_example_atomicspectra_impl_errAtRest)], narrowed := true }
def FnSplitTotalUptoSaid : Prop := fnSplitTotalUptoRow.holds Tryd.pinned (OpenSpec.upto fnSplitTotalSpec)

/-- 'laws.FnSplitSums', WHERE WHAT IT READS IS OF BULK AT MOST 1048576: true; the input reads as it did. -/
def fnSplitSumsUptoRow : OpenClaim := { program := "ytpollgibgphipaadoor", sum := "7e39d2e24dbc43ab654ca7d666ffe605b4024cc766d86d2a843fbb9fe2541874", func := "loop.example/atomicspectra/laws.FnSplitSums", spec := "fnSplitSums", unfollowed := true, recurses := true, named := ["loop.example/atomicspectra/impl.errLevel", "loop.example/atomicspectra/impl.errAtRest"], ifaces := true, apart := false, laid := [("loop.example/atomicspectra/impl.errLevel", laid_loop_example_atomicspectra_impl_errLevel), ("loop.example/atomicspectra/impl.errAtRest", laid_loop_example_atomicspectra_impl_errAtRest)], narrowed := true }
def FnSplitSumsUptoSaid : Prop := fnSplitSumsUptoRow.holds Tryd.pinned (OpenSpec.upto fnSplitSumsSpec)

/-- 'laws.FnSplitSpanNormal', WHERE WHAT IT READS IS OF BULK AT MOST 1048576: true; the input reads as it did. -/
def fnSplitSpanNormalUptoRow : OpenClaim := { program := "ytpollgibgphipaadoor", sum := "7e39d2e24dbc43ab654ca7d666ffe605b4024cc766d86d2a843fbb9fe2541874", func := "loop.example/atomicspectra/laws.FnSplitSpanNormal", spec := "fnSplitSpanNormal", unfollowed := true, recurses := true, named := ["loop.example/atomicspectra/impl.errLevel", "loop.example/atomicspectra/impl.errAtRest"], ifaces := true, apart := false, laid := [("loop.example/atomicspectra/impl.errLevel", laid_loop_example_atomicspectra_impl_errLevel), ("loop.example/atomicspectra/impl.errAtRest", laid_loop_example_atomicspectra_impl_errAtRest)], narrowed := true }
def FnSplitSpanNormalUptoSaid : Prop := fnSplitSpanNormalUptoRow.holds Tryd.pinned (OpenSpec.upto fnSplitSpanNormalSpec)

end Rows
end Go.Proofs.YtpollgibgphipaaDoor
