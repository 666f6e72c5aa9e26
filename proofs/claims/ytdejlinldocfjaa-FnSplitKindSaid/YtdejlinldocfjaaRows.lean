/-
  No cell of these rows narrows 'for every input' (looked for: loops, veiled, ifaces, maps, wideKeys, modest, calm, conditions, laid).
  DERIVED. THE GIVEN ROWS OF THIS SEAT. 6 by the template 'for every input the law returns true; each argument reads behind the call as it read before'; 0 by the template 'total and deterministic' (their statements: YtdejlinldocfjaaTotals.lean).
  GIVEN WITH THE SEED: the statements are not yours to turn. If you find one false, say at which input.
  Laid BY PROGRAM, IN A SANDBOX (cutbox-rows.mjs): the forced cells as the released guide's own fill.sh prints them over the translation 4e2c85f7371492a3… (all of the seat's roots in one cut). By AI agents, Wed Nov 11 2026. No macro, syntax, notation, axiom, sorry.
-/
import Derived.Test.YtdejlinldocfjaaChecked
import GoSem.Claim
import GoSem.ClaimJoined
import GoSem.ClaimMapViews
import Derived.JoinedTies
import Derived.KernelRfl
namespace Go.Proofs.Ytdejlinldocfjaa
/- THE CELL 'sum', in the pinned program and in every row, IS THE sha256 OF THE DUMP (.gsa) THAT YtdejlinldocfjaaProg.lean LOADS. Nothing in Lean hashes anything: it is a label: what it is worth is what the hold of that sum in a sandbox is worth. -/
noncomputable def Try.pinned : Pinned := { name := "ytdejlinldocfjaa", sum := "4e2c85f7371492a394cd20448261267d3c0853646ce58d85d5361e5797027ea3", checked := Try.checked }
namespace Rows
def none {H : Type} : Left H := { results := [], args := [] }

/-- 'laws.FnExactSplitKind': WHATEVER THE INPUT: true; the input reads as it did. -/
def fnExactSplitKindSpec : ChangeSpec := { name := "fnExactSplitKind", fn := fun _ => fun
  | [d1, d2] => { results := [.lit (.bool true)], args := [d1, d2] }
  | _ => none }
def fnExactSplitKindRow : OpenClaim := { program := "ytdejlinldocfjaa", sum := "4e2c85f7371492a394cd20448261267d3c0853646ce58d85d5361e5797027ea3", func := "loop.example/atomicspectra/laws.FnExactSplitKind", spec := "fnExactSplitKind", apart := false }
def FnExactSplitKindSaid : Prop := fnExactSplitKindRow.holds Try.pinned (OpenSpec.ofChange fnExactSplitKindSpec)

/-- ITS FALSE NEIGHBOUR: 'it returns false'. Refute it at one input. -/
def fnExactSplitKindWrong : ChangeSpec := { name := "fnExactSplitKind", fn := fun _ => fun
  | [d1, d2] => { results := [.lit (.bool false)], args := [d1, d2] }
  | _ => none }
def FnExactSplitKindWrongFalsely : Prop := fnExactSplitKindRow.holds Try.pinned (OpenSpec.ofChange fnExactSplitKindWrong)

/-- 'laws.FnExactSplitSum': WHATEVER THE INPUT: true; the input reads as it did. -/
def fnExactSplitSumSpec : ChangeSpec := { name := "fnExactSplitSum", fn := fun _ => fun
  | [d] => { results := [.lit (.bool true)], args := [d] }
  | _ => none }
def fnExactSplitSumRow : OpenClaim := { program := "ytdejlinldocfjaa", sum := "4e2c85f7371492a394cd20448261267d3c0853646ce58d85d5361e5797027ea3", func := "loop.example/atomicspectra/laws.FnExactSplitSum", spec := "fnExactSplitSum", apart := false }
def FnExactSplitSumSaid : Prop := fnExactSplitSumRow.holds Try.pinned (OpenSpec.ofChange fnExactSplitSumSpec)

/-- ITS FALSE NEIGHBOUR: 'it returns false'. Refute it at one input. -/
def fnExactSplitSumWrong : ChangeSpec := { name := "fnExactSplitSum", fn := fun _ => fun
  | [d] => { results := [.lit (.bool false)], args := [d] }
  | _ => none }
def FnExactSplitSumWrongFalsely : Prop := fnExactSplitSumRow.holds Try.pinned (OpenSpec.ofChange fnExactSplitSumWrong)

/-- 'laws.FnExactSplitSpan': WHATEVER THE INPUT: true; the input reads as it did. -/
def fnExactSplitSpanSpec : ChangeSpec := { name := "fnExactSplitSpan", fn := fun _ => fun
  | [d] => { results := [.lit (.bool true)], args := [d] }
  | _ => none }
def fnExactSplitSpanRow : OpenClaim := { program := "ytdejlinldocfjaa", sum := "4e2c85f7371492a394cd20448261267d3c0853646ce58d85d5361e5797027ea3", func := "loop.example/atomicspectra/laws.FnExactSplitSpan", spec := "fnExactSplitSpan", apart := false }
def FnExactSplitSpanSaid : Prop := fnExactSplitSpanRow.holds Try.pinned (OpenSpec.ofChange fnExactSplitSpanSpec)

/-- ITS FALSE NEIGHBOUR: 'it returns false'. Refute it at one input. -/
def fnExactSplitSpanWrong : ChangeSpec := { name := "fnExactSplitSpan", fn := fun _ => fun
  | [d] => { results := [.lit (.bool false)], args := [d] }
  | _ => none }
def FnExactSplitSpanWrongFalsely : Prop := fnExactSplitSpanRow.holds Try.pinned (OpenSpec.ofChange fnExactSplitSpanWrong)

/-- 'laws.FnSplitKind': WHATEVER THE INPUT: true; the input reads as it did. -/
def fnSplitKindSpec : ChangeSpec := { name := "fnSplitKind", fn := fun _ => fun
  | [d] => { results := [.lit (.bool true)], args := [d] }
  | _ => none }
def fnSplitKindRow : OpenClaim := { program := "ytdejlinldocfjaa", sum := "4e2c85f7371492a394cd20448261267d3c0853646ce58d85d5361e5797027ea3", func := "loop.example/atomicspectra/laws.FnSplitKind", spec := "fnSplitKind", apart := false }
def FnSplitKindSaid : Prop := fnSplitKindRow.holds Try.pinned (OpenSpec.ofChange fnSplitKindSpec)

/-- ITS FALSE NEIGHBOUR: 'it returns false'. Refute it at one input. -/
def fnSplitKindWrong : ChangeSpec := { name := "fnSplitKind", fn := fun _ => fun
  | [d] => { results := [.lit (.bool false)], args := [d] }
  | _ => none }
def FnSplitKindWrongFalsely : Prop := fnSplitKindRow.holds Try.pinned (OpenSpec.ofChange fnSplitKindWrong)

/-- 'laws.FnSplitSum': WHATEVER THE INPUT: true; the input reads as it did. -/
def fnSplitSumSpec : ChangeSpec := { name := "fnSplitSum", fn := fun _ => fun
  | [d1, d2] => { results := [.lit (.bool true)], args := [d1, d2] }
  | _ => none }
def fnSplitSumRow : OpenClaim := { program := "ytdejlinldocfjaa", sum := "4e2c85f7371492a394cd20448261267d3c0853646ce58d85d5361e5797027ea3", func := "loop.example/atomicspectra/laws.FnSplitSum", spec := "fnSplitSum", apart := false }
def FnSplitSumSaid : Prop := fnSplitSumRow.holds Try.pinned (OpenSpec.ofChange fnSplitSumSpec)

/-- ITS FALSE NEIGHBOUR: 'it returns false'. Refute it at one input. -/
def fnSplitSumWrong : ChangeSpec := { name := "fnSplitSum", fn := fun _ => fun
  | [d1, d2] => { results := [.lit (.bool false)], args := [d1, d2] }
  | _ => none }
def FnSplitSumWrongFalsely : Prop := fnSplitSumRow.holds Try.pinned (OpenSpec.ofChange fnSplitSumWrong)

/-- 'laws.FnSplitSpan': WHATEVER THE INPUT: true; the input reads as it did. -/
def fnSplitSpanSpec : ChangeSpec := { name := "fnSplitSpan", fn := fun _ => fun
  | [d] => { results := [.lit (.bool true)], args := [d] }
  | _ => none }
def fnSplitSpanRow : OpenClaim := { program := "ytdejlinldocfjaa", sum := "4e2c85f7371492a394cd20448261267d3c0853646ce58d85d5361e5797027ea3", func := "loop.example/atomicspectra/laws.FnSplitSpan", spec := "fnSplitSpan", apart := false }
def FnSplitSpanSaid : Prop := fnSplitSpanRow.holds Try.pinned (OpenSpec.ofChange fnSplitSpanSpec)

/-- ITS FALSE NEIGHBOUR: 'it returns false'. Refute it at one input. -/
def fnSplitSpanWrong : ChangeSpec := { name := "fnSplitSpan", fn := fun _ => fun
  | [d] => { results := [.lit (.bool false)], args := [d] }
  | _ => none }
def FnSplitSpanWrongFalsely : Prop := fnSplitSpanRow.holds Try.pinned (OpenSpec.ofChange fnSplitSpanWrong)

/- THE SECOND FORM. 'bulk': how many values and letters a reading holds, each counted each time it is reached (what is shared counts as often as it is met; a slice's spare places count too). A statement '..UptoSaid' is the law's where the arguments, and the package variables that the reading takes, are together of bulk at most 1048576: NARROWER than '..Said'. Prove '..Said' where nothing that the law and all that it calls make is longer than what came in: it says more and counts as full. Else prove '..UptoSaid'. A law counts once. -/
mutual
def uptoBulk {H : Type} : DataW H → Nat
  | .lit (.string bytes) => bytes.length + 1
  | .lit _ => 1
  | .nil => 1
  | .ptr d => uptoBulk d + 1
  | .slice elems spare => uptoBulkAll elems + uptoBulkAll spare + 1
  | .agg parts => uptoBulkAll parts + 1
  | .iface _ d => uptoBulk d + 1
  | .map entries => uptoBulkEntries entries + 1
  | .held _ => 1
def uptoBulkAll {H : Type} : List (DataW H) → Nat
  | [] => 0
  | d :: r => uptoBulk d + uptoBulkAll r
def uptoBulkEntries {H : Type} : List (Lit × DataW H) → Nat
  | [] => 0
  | x :: r => uptoBulkEntry x + uptoBulkEntries r
def uptoBulkEntry {H : Type} : Lit × DataW H → Nat
  | (.string bytes, d) => bytes.length + uptoBulk d + 1
  | (_, d) => uptoBulk d + 1
 end
def uptoSmall : (H : Type) → List (DataW H) → Bool := fun _ ds => decide (uptoBulkAll ds ≤ 1048576)
def OpenSpec.upto (s : _root_.Go.ChangeSpec) : _root_.Go.OpenSpec := { _root_.Go.OpenSpec.ofChange s with cond := some uptoSmall }

/-- 'laws.FnExactSplitKind', WHERE WHAT IT READS IS OF BULK AT MOST 1048576: true; the input reads as it did. -/
def fnExactSplitKindUptoRow : OpenClaim := { program := "ytdejlinldocfjaa", sum := "4e2c85f7371492a394cd20448261267d3c0853646ce58d85d5361e5797027ea3", func := "loop.example/atomicspectra/laws.FnExactSplitKind", spec := "fnExactSplitKind", apart := false, narrowed := true }
def FnExactSplitKindUptoSaid : Prop := fnExactSplitKindUptoRow.holds Try.pinned (OpenSpec.upto fnExactSplitKindSpec)

/-- 'laws.FnExactSplitSum', WHERE WHAT IT READS IS OF BULK AT MOST 1048576: true; the input reads as it did. -/
def fnExactSplitSumUptoRow : OpenClaim := { program := "ytdejlinldocfjaa", sum := "4e2c85f7371492a394cd20448261267d3c0853646ce58d85d5361e5797027ea3", func := "loop.example/atomicspectra/laws.FnExactSplitSum", spec := "fnExactSplitSum", apart := false, narrowed := true }
def FnExactSplitSumUptoSaid : Prop := fnExactSplitSumUptoRow.holds Try.pinned (OpenSpec.upto fnExactSplitSumSpec)

/-- 'laws.FnExactSplitSpan', WHERE WHAT IT READS IS OF BULK AT MOST 1048576: true; the input reads as it did. -/
def fnExactSplitSpanUptoRow : OpenClaim := { program := "ytdejlinldocfjaa", sum := "4e2c85f7371492a394cd20448261267d3c0853646ce58d85d5361e5797027ea3", func := "loop.example/atomicspectra/laws.FnExactSplitSpan", spec := "fnExactSplitSpan", apart := false, narrowed := true }
def FnExactSplitSpanUptoSaid : Prop := fnExactSplitSpanUptoRow.holds Try.pinned (OpenSpec.upto fnExactSplitSpanSpec)

/-- 'laws.FnSplitKind', WHERE WHAT IT READS IS OF BULK AT MOST 1048576: true; the input reads as it did. -/
def fnSplitKindUptoRow : OpenClaim := { program := "ytdejlinldocfjaa", sum := "4e2c85f7371492a394cd20448261267d3c0853646ce58d85d5361e5797027ea3", func := "loop.example/atomicspectra/laws.FnSplitKind", spec := "fnSplitKind", apart := false, narrowed := true }
def FnSplitKindUptoSaid : Prop := fnSplitKindUptoRow.holds Try.pinned (OpenSpec.upto fnSplitKindSpec)

/-- 'laws.FnSplitSum', WHERE WHAT IT READS IS OF BULK AT MOST 1048576: true; the input reads as it did. -/
def fnSplitSumUptoRow : OpenClaim := { program := "ytdejlinldocfjaa", sum := "4e2c85f7371492a394cd20448261267d3c0853646ce58d85d5361e5797027ea3", func := "loop.example/atomicspectra/laws.FnSplitSum", spec := "fnSplitSum", apart := false, narrowed := true }
def FnSplitSumUptoSaid : Prop := fnSplitSumUptoRow.holds Try.pinned (OpenSpec.upto fnSplitSumSpec)

/-- 'laws.FnSplitSpan', WHERE WHAT IT READS IS OF BULK AT MOST 1048576: true; the input reads as it did. -/
def fnSplitSpanUptoRow : OpenClaim := { program := "ytdejlinldocfjaa", sum := "4e2c85f7371492a394cd20448261267d3c0853646ce58d85d5361e5797027ea3", func := "loop.example/atomicspectra/laws.FnSplitSpan", spec := "fnSplitSpan", apart := false, narrowed := true }
def FnSplitSpanUptoSaid : Prop := fnSplitSpanUptoRow.holds Try.pinned (OpenSpec.upto fnSplitSpanSpec)

end Rows
end Go.Proofs.Ytdejlinldocfjaa
