/-
  NARROWER THAN 'FOR EVERY INPUT', by the rows' own cells (each row's printed sentence says how): FnExactSplitOf: ifaces, laid · FnSplit: ifaces, laid · FnSplitMirror: ifaces, laid · FnSplitMiddle: ifaces, laid · FnSplitNormal: ifaces, laid · FnSplitBack: ifaces, laid.
  DERIVED. THE GIVEN ROWS OF THIS SEAT. 6 by the template 'for every input the law returns true; each argument reads behind the call as it read before'; 0 by the template 'total and deterministic' (their statements: YtdejlinldocfjaaDoorTotals.lean).
  GIVEN WITH THE SEED: the statements are not yours to turn. If you find one false, say at which input.
  Laid BY PROGRAM, IN A SANDBOX (cutbox-rows.mjs): the forced cells as the released guide's own fill.sh prints them over the translation 08ca0b64cff75f8c… (all of the seat's roots in one cut). By AI agents, Wed Nov 11 2026. No macro, syntax, notation, axiom, sorry.
-/
import Derived.Test.YtdejlinldocfjaaDoorChecked
import GoSem.Claim
import GoSem.ClaimJoined
import GoSem.ClaimMapViews
import Derived.JoinedTies
import Derived.KernelRfl
namespace Go.Proofs.YtdejlinldocfjaaDoor
/- THE CELL 'sum', in the pinned program and in every row, IS THE sha256 OF THE DUMP (.gsa) THAT YtdejlinldocfjaaDoorProg.lean LOADS. Nothing in Lean hashes anything: it is a label: what it is worth is what the hold of that sum in a sandbox is worth. -/
noncomputable def Tryd.pinned : Pinned := { name := "ytdejlinldocfjaadoor", sum := "08ca0b64cff75f8c7550d58685e19c75e63952ac9d3ad7207cd4df0fc181c0e8", checked := Tryd.checked }
namespace Rows
def none {H : Type} : Left H := { results := [], args := [] }

/- WHAT THE LISTED PACKAGE-LEVEL VARIABLES READ AS WHEN THE CALL BEGINS. Each datum BY PROGRAM (the guide's laid-datum.mjs) off the statement by which the dump's own 'gosem.cut.vars' lays the variable. In a bare row this is a premise. The card (YtdejlinldocfjaaDoorCards.lean) ties it to the program's text. -/
def laid_loop_example_atomicspectra_impl_errLevel {H : Type} : DataW H := .iface "*errors.errorString" (.ptr (.agg [.lit (.string [110, 111, 32, 108, 101, 118, 101, 108])]))
def laid_loop_example_atomicspectra_impl_errAtRest {H : Type} : DataW H := .iface "*errors.errorString" (.ptr (.agg [.lit (.string [110, 111, 32, 97, 110, 103, 117, 108, 97, 114, 32, 109, 111, 109, 101, 110, 116, 117, 109])]))

/-- 'laws.FnExactSplitOf': WHATEVER THE INPUT: true; the input reads as it did. -/
def fnExactSplitOfSpec : ChangeSpec := { name := "fnExactSplitOf", vars := ["loop.example/atomicspectra/impl.errLevel", "loop.example/atomicspectra/impl.errAtRest"], fn := fun _ => fun
  | [d1, d2, g1, g2] => { results := [.lit (.bool true)], args := [d1, d2], vars := [g1, g2] }
  | _ => none }
def fnExactSplitOfRow : OpenClaim := { program := "ytdejlinldocfjaadoor", sum := "08ca0b64cff75f8c7550d58685e19c75e63952ac9d3ad7207cd4df0fc181c0e8", func := "loop.example/atomicspectra/laws.FnExactSplitOf", spec := "fnExactSplitOf", unfollowed := true, recurses := true, named := ["loop.example/atomicspectra/impl.errLevel", "loop.example/atomicspectra/impl.errAtRest"], ifaces := true, apart := false, laid := [("loop.example/atomicspectra/impl.errLevel", laid_loop_example_atomicspectra_impl_errLevel), ("loop.example/atomicspectra/impl.errAtRest", laid_loop_example_atomicspectra_impl_errAtRest)] }
def FnExactSplitOfSaid : Prop := fnExactSplitOfRow.holds Tryd.pinned (OpenSpec.ofChange fnExactSplitOfSpec)

/-- ITS FALSE NEIGHBOUR: 'it returns false'. Refute it at one input. -/
def fnExactSplitOfWrong : ChangeSpec := { name := "fnExactSplitOf", vars := ["loop.example/atomicspectra/impl.errLevel", "loop.example/atomicspectra/impl.errAtRest"], fn := fun _ => fun
  | [d1, d2, g1, g2] => { results := [.lit (.bool false)], args := [d1, d2], vars := [g1, g2] }
  | _ => none }
def FnExactSplitOfWrongFalsely : Prop := fnExactSplitOfRow.holds Tryd.pinned (OpenSpec.ofChange fnExactSplitOfWrong)

/-- 'laws.FnSplit': WHATEVER THE INPUT: true; the input reads as it did. -/
def fnSplitSpec : ChangeSpec := { name := "fnSplit", vars := ["loop.example/atomicspectra/impl.errLevel", "loop.example/atomicspectra/impl.errAtRest"], fn := fun _ => fun
  | [d, g1, g2] => { results := [.lit (.bool true)], args := [d], vars := [g1, g2] }
  | _ => none }
def fnSplitRow : OpenClaim := { program := "ytdejlinldocfjaadoor", sum := "08ca0b64cff75f8c7550d58685e19c75e63952ac9d3ad7207cd4df0fc181c0e8", func := "loop.example/atomicspectra/laws.FnSplit", spec := "fnSplit", unfollowed := true, recurses := true, named := ["loop.example/atomicspectra/impl.errLevel", "loop.example/atomicspectra/impl.errAtRest"], ifaces := true, apart := false, laid := [("loop.example/atomicspectra/impl.errLevel", laid_loop_example_atomicspectra_impl_errLevel), ("loop.example/atomicspectra/impl.errAtRest", laid_loop_example_atomicspectra_impl_errAtRest)] }
def FnSplitSaid : Prop := fnSplitRow.holds Tryd.pinned (OpenSpec.ofChange fnSplitSpec)

/-- ITS FALSE NEIGHBOUR: 'it returns false'. Refute it at one input. -/
def fnSplitWrong : ChangeSpec := { name := "fnSplit", vars := ["loop.example/atomicspectra/impl.errLevel", "loop.example/atomicspectra/impl.errAtRest"], fn := fun _ => fun
  | [d, g1, g2] => { results := [.lit (.bool false)], args := [d], vars := [g1, g2] }
  | _ => none }
def FnSplitWrongFalsely : Prop := fnSplitRow.holds Tryd.pinned (OpenSpec.ofChange fnSplitWrong)

/-- 'laws.FnSplitMirror': WHATEVER THE INPUT: true; the input reads as it did. -/
def fnSplitMirrorSpec : ChangeSpec := { name := "fnSplitMirror", vars := ["loop.example/atomicspectra/impl.errLevel", "loop.example/atomicspectra/impl.errAtRest"], fn := fun _ => fun
  | [d, g1, g2] => { results := [.lit (.bool true)], args := [d], vars := [g1, g2] }
  | _ => none }
def fnSplitMirrorRow : OpenClaim := { program := "ytdejlinldocfjaadoor", sum := "08ca0b64cff75f8c7550d58685e19c75e63952ac9d3ad7207cd4df0fc181c0e8", func := "loop.example/atomicspectra/laws.FnSplitMirror", spec := "fnSplitMirror", unfollowed := true, recurses := true, named := ["loop.example/atomicspectra/impl.errLevel", "loop.example/atomicspectra/impl.errAtRest"], ifaces := true, apart := false, laid := [("loop.example/atomicspectra/impl.errLevel", laid_loop_example_atomicspectra_impl_errLevel), ("loop.example/atomicspectra/impl.errAtRest", laid_loop_example_atomicspectra_impl_errAtRest)] }
def FnSplitMirrorSaid : Prop := fnSplitMirrorRow.holds Tryd.pinned (OpenSpec.ofChange fnSplitMirrorSpec)

/-- ITS FALSE NEIGHBOUR: 'it returns false'. Refute it at one input. -/
def fnSplitMirrorWrong : ChangeSpec := { name := "fnSplitMirror", vars := ["loop.example/atomicspectra/impl.errLevel", "loop.example/atomicspectra/impl.errAtRest"], fn := fun _ => fun
  | [d, g1, g2] => { results := [.lit (.bool false)], args := [d], vars := [g1, g2] }
  | _ => none }
def FnSplitMirrorWrongFalsely : Prop := fnSplitMirrorRow.holds Tryd.pinned (OpenSpec.ofChange fnSplitMirrorWrong)

/-- 'laws.FnSplitMiddle': WHATEVER THE INPUT: true; the input reads as it did. -/
def fnSplitMiddleSpec : ChangeSpec := { name := "fnSplitMiddle", vars := ["loop.example/atomicspectra/impl.errLevel", "loop.example/atomicspectra/impl.errAtRest"], fn := fun _ => fun
  | [d, g1, g2] => { results := [.lit (.bool true)], args := [d], vars := [g1, g2] }
  | _ => none }
def fnSplitMiddleRow : OpenClaim := { program := "ytdejlinldocfjaadoor", sum := "08ca0b64cff75f8c7550d58685e19c75e63952ac9d3ad7207cd4df0fc181c0e8", func := "loop.example/atomicspectra/laws.FnSplitMiddle", spec := "fnSplitMiddle", unfollowed := true, recurses := true, named := ["loop.example/atomicspectra/impl.errLevel", "loop.example/atomicspectra/impl.errAtRest"], ifaces := true, apart := false, laid := [("loop.example/atomicspectra/impl.errLevel", laid_loop_example_atomicspectra_impl_errLevel), ("loop.example/atomicspectra/impl.errAtRest", laid_loop_example_atomicspectra_impl_errAtRest)] }
def FnSplitMiddleSaid : Prop := fnSplitMiddleRow.holds Tryd.pinned (OpenSpec.ofChange fnSplitMiddleSpec)

/-- ITS FALSE NEIGHBOUR: 'it returns false'. Refute it at one input. -/
def fnSplitMiddleWrong : ChangeSpec := { name := "fnSplitMiddle", vars := ["loop.example/atomicspectra/impl.errLevel", "loop.example/atomicspectra/impl.errAtRest"], fn := fun _ => fun
  | [d, g1, g2] => { results := [.lit (.bool false)], args := [d], vars := [g1, g2] }
  | _ => none }
def FnSplitMiddleWrongFalsely : Prop := fnSplitMiddleRow.holds Tryd.pinned (OpenSpec.ofChange fnSplitMiddleWrong)

/-- 'laws.FnSplitNormal': WHATEVER THE INPUT: true; the input reads as it did. -/
def fnSplitNormalSpec : ChangeSpec := { name := "fnSplitNormal", vars := ["loop.example/atomicspectra/impl.errLevel", "loop.example/atomicspectra/impl.errAtRest"], fn := fun _ => fun
  | [d, g1, g2] => { results := [.lit (.bool true)], args := [d], vars := [g1, g2] }
  | _ => none }
def fnSplitNormalRow : OpenClaim := { program := "ytdejlinldocfjaadoor", sum := "08ca0b64cff75f8c7550d58685e19c75e63952ac9d3ad7207cd4df0fc181c0e8", func := "loop.example/atomicspectra/laws.FnSplitNormal", spec := "fnSplitNormal", unfollowed := true, recurses := true, named := ["loop.example/atomicspectra/impl.errLevel", "loop.example/atomicspectra/impl.errAtRest"], ifaces := true, apart := false, laid := [("loop.example/atomicspectra/impl.errLevel", laid_loop_example_atomicspectra_impl_errLevel), ("loop.example/atomicspectra/impl.errAtRest", laid_loop_example_atomicspectra_impl_errAtRest)] }
def FnSplitNormalSaid : Prop := fnSplitNormalRow.holds Tryd.pinned (OpenSpec.ofChange fnSplitNormalSpec)

/-- ITS FALSE NEIGHBOUR: 'it returns false'. Refute it at one input. -/
def fnSplitNormalWrong : ChangeSpec := { name := "fnSplitNormal", vars := ["loop.example/atomicspectra/impl.errLevel", "loop.example/atomicspectra/impl.errAtRest"], fn := fun _ => fun
  | [d, g1, g2] => { results := [.lit (.bool false)], args := [d], vars := [g1, g2] }
  | _ => none }
def FnSplitNormalWrongFalsely : Prop := fnSplitNormalRow.holds Tryd.pinned (OpenSpec.ofChange fnSplitNormalWrong)

/-- 'laws.FnSplitBack': WHATEVER THE INPUT: true; the input reads as it did. -/
def fnSplitBackSpec : ChangeSpec := { name := "fnSplitBack", vars := ["loop.example/atomicspectra/impl.errLevel", "loop.example/atomicspectra/impl.errAtRest"], fn := fun _ => fun
  | [d, g1, g2] => { results := [.lit (.bool true)], args := [d], vars := [g1, g2] }
  | _ => none }
def fnSplitBackRow : OpenClaim := { program := "ytdejlinldocfjaadoor", sum := "08ca0b64cff75f8c7550d58685e19c75e63952ac9d3ad7207cd4df0fc181c0e8", func := "loop.example/atomicspectra/laws.FnSplitBack", spec := "fnSplitBack", unfollowed := true, recurses := true, named := ["loop.example/atomicspectra/impl.errLevel", "loop.example/atomicspectra/impl.errAtRest"], ifaces := true, apart := false, laid := [("loop.example/atomicspectra/impl.errLevel", laid_loop_example_atomicspectra_impl_errLevel), ("loop.example/atomicspectra/impl.errAtRest", laid_loop_example_atomicspectra_impl_errAtRest)] }
def FnSplitBackSaid : Prop := fnSplitBackRow.holds Tryd.pinned (OpenSpec.ofChange fnSplitBackSpec)

/-- ITS FALSE NEIGHBOUR: 'it returns false'. Refute it at one input. -/
def fnSplitBackWrong : ChangeSpec := { name := "fnSplitBack", vars := ["loop.example/atomicspectra/impl.errLevel", "loop.example/atomicspectra/impl.errAtRest"], fn := fun _ => fun
  | [d, g1, g2] => { results := [.lit (.bool false)], args := [d], vars := [g1, g2] }
  | _ => none }
def FnSplitBackWrongFalsely : Prop := fnSplitBackRow.holds Tryd.pinned (OpenSpec.ofChange fnSplitBackWrong)

/- THE SECOND FORM. 'bulk': how many values and letters a reading holds, each counted each time it is reached (what is shared counts as often as it is met; a slice's spare places count too). A statement '..UptoSaid' is the law's where the arguments, and the package variables that the reading takes, are together of bulk at most 1048576: NARROWER than '..Said'. Prove '..Said' where nothing that the law and all that it calls make is longer than what came in: it says more and counts as full. Else prove '..UptoSaid'. A law counts once. -/
mutual
def uptoBulk {H : Type} : DataW H → Nat
  | .lit (.string bytes) => bytes.length + 1
  | .lit _ => 1
  | .nil => 1
  | .ptr d => uptoBulk d + 1
  | .slice elems spare => uptoBulkAll elems + uptoBulkAll spare + 1
  | .agg parts => uptoBulkAll parts + 1
  | .iface _ d => uptoBulk d + 1
  | .map entries => uptoBulkEntries entries + 1
  | .held _ => 1
def uptoBulkAll {H : Type} : List (DataW H) → Nat
  | [] => 0
  | d :: r => uptoBulk d + uptoBulkAll r
def uptoBulkEntries {H : Type} : List (Lit × DataW H) → Nat
  | [] => 0
  | x :: r => uptoBulkEntry x + uptoBulkEntries r
def uptoBulkEntry {H : Type} : Lit × DataW H → Nat
  | (.string bytes, d) => bytes.length + uptoBulk d + 1
  | (_, d) => uptoBulk d + 1
 end
def uptoSmall : (H : Type) → List (DataW H) → Bool := fun _ ds => decide (uptoBulkAll ds ≤ 1048576)
def OpenSpec.upto (s : _root_.Go.ChangeSpec) : _root_.Go.OpenSpec := { _root_.Go.OpenSpec.ofChange s with cond := some uptoSmall }

/-- 'laws.FnExactSplitOf', WHERE WHAT IT READS IS OF BULK AT MOST 1048576: true; the input reads as it did. -/
def fnExactSplitOfUptoRow : OpenClaim := { program := "ytdejlinldocfjaadoor", sum := "08ca0b64cff75f8c7550d58685e19c75e63952ac9d3ad7207cd4df0fc181c0e8", func := "loop.example/atomicspectra/laws.FnExactSplitOf", spec := "fnExactSplitOf", unfollowed := true, recurses := true, named := ["loop.example/atomicspectra/impl.errLevel", "loop.example/atomicspectra/impl.errAtRest"], ifaces := true, apart := false, laid := [("loop.example/atomicspectra/impl.errLevel", laid_loop_example_atomicspectra_impl_errLevel), ("loop.example/atomicspectra/impl.errAtRest", laid_loop_example_atomicspectra_impl_errAtRest)], narrowed := true }
def FnExactSplitOfUptoSaid : Prop := fnExactSplitOfUptoRow.holds Tryd.pinned (OpenSpec.upto fnExactSplitOfSpec)

/-- 'laws.FnSplit', WHERE WHAT IT READS IS OF BULK AT MOST 1048576: true; the input reads as it did. -/
def fnSplitUptoRow : OpenClaim := { program := "ytdejlinldocfjaadoor", sum := "08ca0b64cff75f8c7550d58685e19c75e63952ac9d3ad7207cd4df0fc181c0e8", func := "loop.example/atomicspectra/laws.FnSplit", spec := "fnSplit", unfollowed := true, recurses := true, named := ["loop.example/atomicspectra/impl.errLevel", "loop.example/atomicspectra/impl.errAtRest"], ifaces := true, apart := false, laid := [("loop.example/atomicspectra/impl.errLevel", laid_loop_example_atomicspectra_impl_errLevel), ("loop.example/atomicspectra/impl.errAtRest", laid_loop_example_atomicspectra_impl_errAtRest)], narrowed := true }
def FnSplitUptoSaid : Prop := fnSplitUptoRow.holds Tryd.pinned (OpenSpec.upto fnSplitSpec)

/-- 'laws.FnSplitMirror', WHERE WHAT IT READS IS OF BULK AT MOST 1048576: true; the input reads as it did. -/
def fnSplitMirrorUptoRow : OpenClaim := { program := "ytdejlinldocfjaadoor", sum := "08ca0b64cff75f8c7550d58685e19c75e63952ac9d3ad7207cd4df0fc181c0e8", func := "loop.example/atomicspectra/laws.FnSplitMirror", spec := "fnSplitMirror", unfollowed := true, recurses := true, named := ["loop.example/atomicspectra/impl.errLevel", "loop.example/atomicspectra/impl.errAtRest"], ifaces := true, apart := false, laid := [("loop.example/atomicspectra/impl.errLevel", laid_loop_example_atomicspectra_impl_errLevel), ("loop.example/atomicspectra/impl.errAtRest", laid_loop_example_atomicspectra_impl_errAtRest)], narrowed := true }
def FnSplitMirrorUptoSaid : Prop := fnSplitMirrorUptoRow.holds Tryd.pinned (OpenSpec.upto fnSplitMirrorSpec)

/-- 'laws.FnSplitMiddle', WHERE WHAT IT READS IS OF BULK AT MOST 1048576: true; the input reads as it did. -/
def fnSplitMiddleUptoRow : OpenClaim := { program := "ytdejlinldocfjaadoor", sum := "08ca0b64cff75f8c7550d58685e19c75e63952ac9d3ad7207cd4df0fc181c0e8", func := "loop.example/atomicspectra/laws.FnSplitMiddle", spec := "fnSplitMiddle", unfollowed := true, recurses := true, named := ["loop.example/atomicspectra/impl.errLevel", "loop.example/atomicspectra/impl.errAtRest"], ifaces := true, apart := false, laid := [("loop.example/atomicspectra/impl.errLevel", laid_loop_example_atomicspectra_impl_errLevel), ("loop.example/atomicspectra/impl.errAtRest", laid_loop_example_atomicspectra_impl_errAtRest)], narrowed := true }
def FnSplitMiddleUptoSaid : Prop := fnSplitMiddleUptoRow.holds Tryd.pinned (OpenSpec.upto fnSplitMiddleSpec)

/-- 'laws.FnSplitNormal', WHERE WHAT IT READS IS OF BULK AT MOST 1048576: true; the input reads as it did. -/
def fnSplitNormalUptoRow : OpenClaim := { program := "ytdejlinldocfjaadoor", sum := "08ca0b64cff75f8c7550d58685e19c75e63952ac9d3ad7207cd4df0fc181c0e8", func := "loop.example/atomicspectra/laws.FnSplitNormal", spec := "fnSplitNormal", unfollowed := true, recurses := true, named := ["loop.example/atomicspectra/impl.errLevel", "loop.example/atomicspectra/impl.errAtRest"], ifaces := true, apart := false, laid := [("loop.example/atomicspectra/impl.errLevel", laid_loop_example_atomicspectra_impl_errLevel), ("loop.example/atomicspectra/impl.errAtRest", laid_loop_example_atomicspectra_impl_errAtRest)], narrowed := true }
def FnSplitNormalUptoSaid : Prop := fnSplitNormalUptoRow.holds Tryd.pinned (OpenSpec.upto fnSplitNormalSpec)

/-- 'laws.FnSplitBack', WHERE WHAT IT READS IS OF BULK AT MOST 1048576: true; the input reads as it did. -/
def fnSplitBackUptoRow : OpenClaim := { program := "ytdejlinldocfjaadoor", sum := "08ca0b64cff75f8c7550d58685e19c75e63952ac9d3ad7207cd4df0fc181c0e8", func := "loop.example/atomicspectra/laws.FnSplitBack", spec := "fnSplitBack", unfollowed := true, recurses := true, named := ["loop.example/atomicspectra/impl.errLevel", "loop.example/atomicspectra/impl.errAtRest"], ifaces := true, apart := false, laid := [("loop.example/atomicspectra/impl.errLevel", laid_loop_example_atomicspectra_impl_errLevel), ("loop.example/atomicspectra/impl.errAtRest", laid_loop_example_atomicspectra_impl_errAtRest)], narrowed := true }
def FnSplitBackUptoSaid : Prop := fnSplitBackUptoRow.holds Tryd.pinned (OpenSpec.upto fnSplitBackSpec)

end Rows
end Go.Proofs.YtdejlinldocfjaaDoor
