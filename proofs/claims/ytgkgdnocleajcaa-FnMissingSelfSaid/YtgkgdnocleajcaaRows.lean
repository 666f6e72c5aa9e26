/-
  No cell of these rows narrows 'for every input' (looked for: loops, veiled, ifaces, maps, wideKeys, modest, calm, conditions, laid).
  DERIVED. THE GIVEN ROWS OF THIS SEAT. 12 by the template 'for every input the law returns true; each argument reads behind the call as it read before'; 0 by the template 'total and deterministic' (their statements: YtgkgdnocleajcaaTotals.lean).
  GIVEN WITH THE SEED: the statements are not yours to turn. If you find one false, say at which input.
  Laid BY PROGRAM, IN A SANDBOX (cutbox-rows.mjs): the forced cells as the released guide's own fill.sh prints them over the translation 70acfb513073fcf8… (all of the seat's roots in one cut). By AI agents, Wed Nov 11 2026. No macro, syntax, notation, axiom, sorry.
-/
import Derived.Test.YtgkgdnocleajcaaChecked
import GoSem.Claim
import GoSem.ClaimJoined
import GoSem.ClaimMapViews
import Derived.JoinedTies
import Derived.KernelRfl
namespace Go.Proofs.Ytgkgdnocleajcaa
/- THE CELL 'sum', in the pinned program and in every row, IS THE sha256 OF THE DUMP (.gsa) THAT YtgkgdnocleajcaaProg.lean LOADS. Nothing in Lean hashes anything: it is a label: what it is worth is what the hold of that sum in a sandbox is worth. -/
noncomputable def Try.pinned : Pinned := { name := "ytgkgdnocleajcaa", sum := "70acfb513073fcf8e8d2fe4a4ec48f07637a67e861858a80247159cb4fb5d275", checked := Try.checked }
namespace Rows
def none {H : Type} : Left H := { results := [], args := [] }

/-- 'laws.FnExactSchemeValid': WHATEVER THE INPUT: true; the input reads as it did. -/
def fnExactSchemeValidSpec : ChangeSpec := { name := "fnExactSchemeValid", fn := fun _ => fun
  | [d] => { results := [.lit (.bool true)], args := [d] }
  | _ => none }
def fnExactSchemeValidRow : OpenClaim := { program := "ytgkgdnocleajcaa", sum := "70acfb513073fcf8e8d2fe4a4ec48f07637a67e861858a80247159cb4fb5d275", func := "loop.example/atomicspectra/laws.FnExactSchemeValid", spec := "fnExactSchemeValid", apart := false }
def FnExactSchemeValidSaid : Prop := fnExactSchemeValidRow.holds Try.pinned (OpenSpec.ofChange fnExactSchemeValidSpec)

/-- ITS FALSE NEIGHBOUR: 'it returns false'. Refute it at one input. -/
def fnExactSchemeValidWrong : ChangeSpec := { name := "fnExactSchemeValid", fn := fun _ => fun
  | [d] => { results := [.lit (.bool false)], args := [d] }
  | _ => none }
def FnExactSchemeValidWrongFalsely : Prop := fnExactSchemeValidRow.holds Try.pinned (OpenSpec.ofChange fnExactSchemeValidWrong)

/-- 'laws.FnScheme': WHATEVER THE INPUT: true; the input reads as it did. -/
def fnSchemeSpec : ChangeSpec := { name := "fnScheme", fn := fun _ => fun
  | [d1, d2] => { results := [.lit (.bool true)], args := [d1, d2] }
  | _ => none }
def fnSchemeRow : OpenClaim := { program := "ytgkgdnocleajcaa", sum := "70acfb513073fcf8e8d2fe4a4ec48f07637a67e861858a80247159cb4fb5d275", func := "loop.example/atomicspectra/laws.FnScheme", spec := "fnScheme", apart := false }
def FnSchemeSaid : Prop := fnSchemeRow.holds Try.pinned (OpenSpec.ofChange fnSchemeSpec)

/-- ITS FALSE NEIGHBOUR: 'it returns false'. Refute it at one input. -/
def fnSchemeWrong : ChangeSpec := { name := "fnScheme", fn := fun _ => fun
  | [d1, d2] => { results := [.lit (.bool false)], args := [d1, d2] }
  | _ => none }
def FnSchemeWrongFalsely : Prop := fnSchemeRow.holds Try.pinned (OpenSpec.ofChange fnSchemeWrong)

/-- 'laws.FnLines': WHATEVER THE INPUT: true; the input reads as it did. -/
def fnLinesSpec : ChangeSpec := { name := "fnLines", fn := fun _ => fun
  | [d] => { results := [.lit (.bool true)], args := [d] }
  | _ => none }
def fnLinesRow : OpenClaim := { program := "ytgkgdnocleajcaa", sum := "70acfb513073fcf8e8d2fe4a4ec48f07637a67e861858a80247159cb4fb5d275", func := "loop.example/atomicspectra/laws.FnLines", spec := "fnLines", unfollowed := true, recurses := true, apart := false }
def FnLinesSaid : Prop := fnLinesRow.holds Try.pinned (OpenSpec.ofChange fnLinesSpec)

/-- ITS FALSE NEIGHBOUR: 'it returns false'. Refute it at one input. -/
def fnLinesWrong : ChangeSpec := { name := "fnLines", fn := fun _ => fun
  | [d] => { results := [.lit (.bool false)], args := [d] }
  | _ => none }
def FnLinesWrongFalsely : Prop := fnLinesRow.holds Try.pinned (OpenSpec.ofChange fnLinesWrong)

/-- 'laws.FnLinesOrder': WHATEVER THE INPUT: true; the input reads as it did. -/
def fnLinesOrderSpec : ChangeSpec := { name := "fnLinesOrder", fn := fun _ => fun
  | [d] => { results := [.lit (.bool true)], args := [d] }
  | _ => none }
def fnLinesOrderRow : OpenClaim := { program := "ytgkgdnocleajcaa", sum := "70acfb513073fcf8e8d2fe4a4ec48f07637a67e861858a80247159cb4fb5d275", func := "loop.example/atomicspectra/laws.FnLinesOrder", spec := "fnLinesOrder", unfollowed := true, recurses := true, apart := false }
def FnLinesOrderSaid : Prop := fnLinesOrderRow.holds Try.pinned (OpenSpec.ofChange fnLinesOrderSpec)

/-- ITS FALSE NEIGHBOUR: 'it returns false'. Refute it at one input. -/
def fnLinesOrderWrong : ChangeSpec := { name := "fnLinesOrder", fn := fun _ => fun
  | [d] => { results := [.lit (.bool false)], args := [d] }
  | _ => none }
def FnLinesOrderWrongFalsely : Prop := fnLinesOrderRow.holds Try.pinned (OpenSpec.ofChange fnLinesOrderWrong)

/-- 'laws.FnLinesFlip': WHATEVER THE INPUT: true; the input reads as it did. -/
def fnLinesFlipSpec : ChangeSpec := { name := "fnLinesFlip", fn := fun _ => fun
  | [d] => { results := [.lit (.bool true)], args := [d] }
  | _ => none }
def fnLinesFlipRow : OpenClaim := { program := "ytgkgdnocleajcaa", sum := "70acfb513073fcf8e8d2fe4a4ec48f07637a67e861858a80247159cb4fb5d275", func := "loop.example/atomicspectra/laws.FnLinesFlip", spec := "fnLinesFlip", unfollowed := true, recurses := true, apart := false }
def FnLinesFlipSaid : Prop := fnLinesFlipRow.holds Try.pinned (OpenSpec.ofChange fnLinesFlipSpec)

/-- ITS FALSE NEIGHBOUR: 'it returns false'. Refute it at one input. -/
def fnLinesFlipWrong : ChangeSpec := { name := "fnLinesFlip", fn := fun _ => fun
  | [d] => { results := [.lit (.bool false)], args := [d] }
  | _ => none }
def FnLinesFlipWrongFalsely : Prop := fnLinesFlipRow.holds Try.pinned (OpenSpec.ofChange fnLinesFlipWrong)

/-- 'laws.FnLinesAll': WHATEVER THE INPUT: true; the input reads as it did. -/
def fnLinesAllSpec : ChangeSpec := { name := "fnLinesAll", fn := fun _ => fun
  | [d] => { results := [.lit (.bool true)], args := [d] }
  | _ => none }
def fnLinesAllRow : OpenClaim := { program := "ytgkgdnocleajcaa", sum := "70acfb513073fcf8e8d2fe4a4ec48f07637a67e861858a80247159cb4fb5d275", func := "loop.example/atomicspectra/laws.FnLinesAll", spec := "fnLinesAll", unfollowed := true, recurses := true, apart := false }
def FnLinesAllSaid : Prop := fnLinesAllRow.holds Try.pinned (OpenSpec.ofChange fnLinesAllSpec)

/-- ITS FALSE NEIGHBOUR: 'it returns false'. Refute it at one input. -/
def fnLinesAllWrong : ChangeSpec := { name := "fnLinesAll", fn := fun _ => fun
  | [d] => { results := [.lit (.bool false)], args := [d] }
  | _ => none }
def FnLinesAllWrongFalsely : Prop := fnLinesAllRow.holds Try.pinned (OpenSpec.ofChange fnLinesAllWrong)

/-- 'laws.FnLinesLoop': WHATEVER THE INPUT: true; the input reads as it did. -/
def fnLinesLoopSpec : ChangeSpec := { name := "fnLinesLoop", fn := fun _ => fun
  | [d1, d2] => { results := [.lit (.bool true)], args := [d1, d2] }
  | _ => none }
def fnLinesLoopRow : OpenClaim := { program := "ytgkgdnocleajcaa", sum := "70acfb513073fcf8e8d2fe4a4ec48f07637a67e861858a80247159cb4fb5d275", func := "loop.example/atomicspectra/laws.FnLinesLoop", spec := "fnLinesLoop", unfollowed := true, recurses := true, apart := false }
def FnLinesLoopSaid : Prop := fnLinesLoopRow.holds Try.pinned (OpenSpec.ofChange fnLinesLoopSpec)

/-- ITS FALSE NEIGHBOUR: 'it returns false'. Refute it at one input. -/
def fnLinesLoopWrong : ChangeSpec := { name := "fnLinesLoop", fn := fun _ => fun
  | [d1, d2] => { results := [.lit (.bool false)], args := [d1, d2] }
  | _ => none }
def FnLinesLoopWrongFalsely : Prop := fnLinesLoopRow.holds Try.pinned (OpenSpec.ofChange fnLinesLoopWrong)

/-- 'laws.FnLinesThree': WHATEVER THE INPUT: true; the input reads as it did. -/
def fnLinesThreeSpec : ChangeSpec := { name := "fnLinesThree", fn := fun _ => fun
  | [d] => { results := [.lit (.bool true)], args := [d] }
  | _ => none }
def fnLinesThreeRow : OpenClaim := { program := "ytgkgdnocleajcaa", sum := "70acfb513073fcf8e8d2fe4a4ec48f07637a67e861858a80247159cb4fb5d275", func := "loop.example/atomicspectra/laws.FnLinesThree", spec := "fnLinesThree", unfollowed := true, recurses := true, apart := false }
def FnLinesThreeSaid : Prop := fnLinesThreeRow.holds Try.pinned (OpenSpec.ofChange fnLinesThreeSpec)

/-- ITS FALSE NEIGHBOUR: 'it returns false'. Refute it at one input. -/
def fnLinesThreeWrong : ChangeSpec := { name := "fnLinesThree", fn := fun _ => fun
  | [d] => { results := [.lit (.bool false)], args := [d] }
  | _ => none }
def FnLinesThreeWrongFalsely : Prop := fnLinesThreeRow.holds Try.pinned (OpenSpec.ofChange fnLinesThreeWrong)

/-- 'laws.FnLinesFirst': WHATEVER THE INPUT: true; the input reads as it did. -/
def fnLinesFirstSpec : ChangeSpec := { name := "fnLinesFirst", fn := fun _ => fun
  | [d1, d2] => { results := [.lit (.bool true)], args := [d1, d2] }
  | _ => none }
def fnLinesFirstRow : OpenClaim := { program := "ytgkgdnocleajcaa", sum := "70acfb513073fcf8e8d2fe4a4ec48f07637a67e861858a80247159cb4fb5d275", func := "loop.example/atomicspectra/laws.FnLinesFirst", spec := "fnLinesFirst", unfollowed := true, recurses := true, apart := false }
def FnLinesFirstSaid : Prop := fnLinesFirstRow.holds Try.pinned (OpenSpec.ofChange fnLinesFirstSpec)

/-- ITS FALSE NEIGHBOUR: 'it returns false'. Refute it at one input. -/
def fnLinesFirstWrong : ChangeSpec := { name := "fnLinesFirst", fn := fun _ => fun
  | [d1, d2] => { results := [.lit (.bool false)], args := [d1, d2] }
  | _ => none }
def FnLinesFirstWrongFalsely : Prop := fnLinesFirstRow.holds Try.pinned (OpenSpec.ofChange fnLinesFirstWrong)

/-- 'laws.FnExactSchemeLines': WHATEVER THE INPUT: true; the input reads as it did. -/
def fnExactSchemeLinesSpec : ChangeSpec := { name := "fnExactSchemeLines", fn := fun _ => fun
  | [d] => { results := [.lit (.bool true)], args := [d] }
  | _ => none }
def fnExactSchemeLinesRow : OpenClaim := { program := "ytgkgdnocleajcaa", sum := "70acfb513073fcf8e8d2fe4a4ec48f07637a67e861858a80247159cb4fb5d275", func := "loop.example/atomicspectra/laws.FnExactSchemeLines", spec := "fnExactSchemeLines", unfollowed := true, recurses := true, apart := false }
def FnExactSchemeLinesSaid : Prop := fnExactSchemeLinesRow.holds Try.pinned (OpenSpec.ofChange fnExactSchemeLinesSpec)

/-- ITS FALSE NEIGHBOUR: 'it returns false'. Refute it at one input. -/
def fnExactSchemeLinesWrong : ChangeSpec := { name := "fnExactSchemeLines", fn := fun _ => fun
  | [d] => { results := [.lit (.bool false)], args := [d] }
  | _ => none }
def FnExactSchemeLinesWrongFalsely : Prop := fnExactSchemeLinesRow.holds Try.pinned (OpenSpec.ofChange fnExactSchemeLinesWrong)

/-- 'laws.FnMissingSelf': WHATEVER THE INPUT: true; the input reads as it did. -/
def fnMissingSelfSpec : ChangeSpec := { name := "fnMissingSelf", fn := fun _ => fun
  | [d] => { results := [.lit (.bool true)], args := [d] }
  | _ => none }
def fnMissingSelfRow : OpenClaim := { program := "ytgkgdnocleajcaa", sum := "70acfb513073fcf8e8d2fe4a4ec48f07637a67e861858a80247159cb4fb5d275", func := "loop.example/atomicspectra/laws.FnMissingSelf", spec := "fnMissingSelf", unfollowed := true, recurses := true, apart := false }
def FnMissingSelfSaid : Prop := fnMissingSelfRow.holds Try.pinned (OpenSpec.ofChange fnMissingSelfSpec)

/-- ITS FALSE NEIGHBOUR: 'it returns false'. Refute it at one input. -/
def fnMissingSelfWrong : ChangeSpec := { name := "fnMissingSelf", fn := fun _ => fun
  | [d] => { results := [.lit (.bool false)], args := [d] }
  | _ => none }
def FnMissingSelfWrongFalsely : Prop := fnMissingSelfRow.holds Try.pinned (OpenSpec.ofChange fnMissingSelfWrong)

/-- 'laws.FnExactSchemeDecays': WHATEVER THE INPUT: true; the input reads as it did. -/
def fnExactSchemeDecaysSpec : ChangeSpec := { name := "fnExactSchemeDecays", fn := fun _ => fun
  | [d1, d2] => { results := [.lit (.bool true)], args := [d1, d2] }
  | _ => none }
def fnExactSchemeDecaysRow : OpenClaim := { program := "ytgkgdnocleajcaa", sum := "70acfb513073fcf8e8d2fe4a4ec48f07637a67e861858a80247159cb4fb5d275", func := "loop.example/atomicspectra/laws.FnExactSchemeDecays", spec := "fnExactSchemeDecays", unfollowed := true, recurses := true, apart := false }
def FnExactSchemeDecaysSaid : Prop := fnExactSchemeDecaysRow.holds Try.pinned (OpenSpec.ofChange fnExactSchemeDecaysSpec)

/-- ITS FALSE NEIGHBOUR: 'it returns false'. Refute it at one input. -/
def fnExactSchemeDecaysWrong : ChangeSpec := { name := "fnExactSchemeDecays", fn := fun _ => fun
  | [d1, d2] => { results := [.lit (.bool false)], args := [d1, d2] }
  | _ => none }
def FnExactSchemeDecaysWrongFalsely : Prop := fnExactSchemeDecaysRow.holds Try.pinned (OpenSpec.ofChange fnExactSchemeDecaysWrong)

/- THE SECOND FORM. 'bulk': how many values and letters a reading holds, each counted each time it is reached (what is shared counts as often as it is met; a slice's spare places count too). A statement '..UptoSaid' is the law's where the arguments, and the package variables that the reading takes, are together of bulk at most 1048576: NARROWER than '..Said'. Prove '..Said' where nothing that the law and all that it calls make is longer than what came in: it says more and counts as full. Else prove '..UptoSaid'. A law counts once. -/
mutual
def uptoBulk {H : Type} : DataW H → Nat
  | .lit (.string bytes) => bytes.length + 1
  | .lit _ => 1
  | .nil => 1
  | .ptr d => uptoBulk d + 1
  | .slice elems spare => uptoBulkAll elems + uptoBulkAll spare + 1
  | .agg parts => uptoBulkAll parts + 1
  | .iface _ d => uptoBulk d + 1
  | .map entries => uptoBulkEntries entries + 1
  | .held _ => 1
def uptoBulkAll {H : Type} : List (DataW H) → Nat
  | [] => 0
  | d :: r => uptoBulk d + uptoBulkAll r
def uptoBulkEntries {H : Type} : List (Lit × DataW H) → Nat
  | [] => 0
  | x :: r => uptoBulkEntry x + uptoBulkEntries r
def uptoBulkEntry {H : Type} : Lit × DataW H → Nat
  | (.string bytes, d) => bytes.length + uptoBulk d + 1
  | (_, d) => uptoBulk d + 1
 end
def uptoSmall : (H : Type) → List (DataW H) → Bool := fun _ ds => decide (uptoBulkAll ds ≤ 1048576)
def OpenSpec.upto (s : _root_.Go.ChangeSpec) : _root_.Go.OpenSpec := { _root_.Go.OpenSpec.ofChange s with cond := some uptoSmall }

/-- 'laws.FnExactSchemeValid', WHERE WHAT IT READS IS OF BULK AT MOST 1048576: true; the input reads as it did. -/
def fnExactSchemeValidUptoRow : OpenClaim := { program := "ytgkgdnocleajcaa", sum := "70acfb513073fcf8e8d2fe4a4ec48f07637a67e861858a80247159cb4fb5d275", func := "loop.example/atomicspectra/laws.FnExactSchemeValid", spec := "fnExactSchemeValid", apart := false, narrowed := true }
def FnExactSchemeValidUptoSaid : Prop := fnExactSchemeValidUptoRow.holds Try.pinned (OpenSpec.upto fnExactSchemeValidSpec)

/-- 'laws.FnScheme', WHERE WHAT IT READS IS OF BULK AT MOST 1048576: true; the input reads as it did. -/
def fnSchemeUptoRow : OpenClaim := { program := "ytgkgdnocleajcaa", sum := "70acfb513073fcf8e8d2fe4a4ec48f07637a67e861858a80247159cb4fb5d275", func := "loop.example/atomicspectra/laws.FnScheme", spec := "fnScheme", apart := false, narrowed := true }
def FnSchemeUptoSaid : Prop := fnSchemeUptoRow.holds Try.pinned (OpenSpec.upto fnSchemeSpec)

/-- 'laws.FnLines', WHERE WHAT IT READS IS OF BULK AT MOST 1048576: true; the input reads as it did. -/
def fnLinesUptoRow : OpenClaim := { program := "ytgkgdnocleajcaa", sum := "70acfb513073fcf8e8d2fe4a4ec48f07637a67e861858a80247159cb4fb5d275", func := "loop.example/atomicspectra/laws.FnLines", spec := "fnLines", unfollowed := true, recurses := true, apart := false, narrowed := true }
def FnLinesUptoSaid : Prop := fnLinesUptoRow.holds Try.pinned (OpenSpec.upto fnLinesSpec)

/-- 'laws.FnLinesOrder', WHERE WHAT IT READS IS OF BULK AT MOST 1048576: true; the input reads as it did. -/
def fnLinesOrderUptoRow : OpenClaim := { program := "ytgkgdnocleajcaa", sum := "70acfb513073fcf8e8d2fe4a4ec48f07637a67e861858a80247159cb4fb5d275", func := "loop.example/atomicspectra/laws.FnLinesOrder", spec := "fnLinesOrder", unfollowed := true, recurses := true, apart := false, narrowed := true }
def FnLinesOrderUptoSaid : Prop := fnLinesOrderUptoRow.holds Try.pinned (OpenSpec.upto fnLinesOrderSpec)

/-- 'laws.FnLinesFlip', WHERE WHAT IT READS IS OF BULK AT MOST 1048576: true; the input reads as it did. -/
def fnLinesFlipUptoRow : OpenClaim := { program := "ytgkgdnocleajcaa", sum := "70acfb513073fcf8e8d2fe4a4ec48f07637a67e861858a80247159cb4fb5d275", func := "loop.example/atomicspectra/laws.FnLinesFlip", spec := "fnLinesFlip", unfollowed := true, recurses := true, apart := false, narrowed := true }
def FnLinesFlipUptoSaid : Prop := fnLinesFlipUptoRow.holds Try.pinned (OpenSpec.upto fnLinesFlipSpec)

/-- 'laws.FnLinesAll', WHERE WHAT IT READS IS OF BULK AT MOST 1048576: true; the input reads as it did. -/
def fnLinesAllUptoRow : OpenClaim := { program := "ytgkgdnocleajcaa", sum := "70acfb513073fcf8e8d2fe4a4ec48f07637a67e861858a80247159cb4fb5d275", func := "loop.example/atomicspectra/laws.FnLinesAll", spec := "fnLinesAll", unfollowed := true, recurses := true, apart := false, narrowed := true }
def FnLinesAllUptoSaid : Prop := fnLinesAllUptoRow.holds Try.pinned (OpenSpec.upto fnLinesAllSpec)

/-- 'laws.FnLinesLoop', WHERE WHAT IT READS IS OF BULK AT MOST 1048576: true; the input reads as it did. -/
def fnLinesLoopUptoRow : OpenClaim := { program := "ytgkgdnocleajcaa", sum := "70acfb513073fcf8e8d2fe4a4ec48f07637a67e861858a80247159cb4fb5d275", func := "loop.example/atomicspectra/laws.FnLinesLoop", spec := "fnLinesLoop", unfollowed := true, recurses := true, apart := false, narrowed := true }
def FnLinesLoopUptoSaid : Prop := fnLinesLoopUptoRow.holds Try.pinned (OpenSpec.upto fnLinesLoopSpec)

/-- 'laws.FnLinesThree', WHERE WHAT IT READS IS OF BULK AT MOST 1048576: true; the input reads as it did. -/
def fnLinesThreeUptoRow : OpenClaim := { program := "ytgkgdnocleajcaa", sum := "70acfb513073fcf8e8d2fe4a4ec48f07637a67e861858a80247159cb4fb5d275", func := "loop.example/atomicspectra/laws.FnLinesThree", spec := "fnLinesThree", unfollowed := true, recurses := true, apart := false, narrowed := true }
def FnLinesThreeUptoSaid : Prop := fnLinesThreeUptoRow.holds Try.pinned (OpenSpec.upto fnLinesThreeSpec)

/-- 'laws.FnLinesFirst', WHERE WHAT IT READS IS OF BULK AT MOST 1048576: true; the input reads as it did. -/
def fnLinesFirstUptoRow : OpenClaim := { program := "ytgkgdnocleajcaa", sum := "70acfb513073fcf8e8d2fe4a4ec48f07637a67e861858a80247159cb4fb5d275", func := "loop.example/atomicspectra/laws.FnLinesFirst", spec := "fnLinesFirst", unfollowed := true, recurses := true, apart := false, narrowed := true }
def FnLinesFirstUptoSaid : Prop := fnLinesFirstUptoRow.holds Try.pinned (OpenSpec.upto fnLinesFirstSpec)

/-- 'laws.FnExactSchemeLines', WHERE WHAT IT READS IS OF BULK AT MOST 1048576: true; the input reads as it did. -/
def fnExactSchemeLinesUptoRow : OpenClaim := { program := "ytgkgdnocleajcaa", sum := "70acfb513073fcf8e8d2fe4a4ec48f07637a67e861858a80247159cb4fb5d275", func := "loop.example/atomicspectra/laws.FnExactSchemeLines", spec := "fnExactSchemeLines", unfollowed := true, recurses := true, apart := false, narrowed := true }
def FnExactSchemeLinesUptoSaid : Prop := fnExactSchemeLinesUptoRow.holds Try.pinned (OpenSpec.upto fnExactSchemeLinesSpec)

/-- 'laws.FnMissingSelf', WHERE WHAT IT READS IS OF BULK AT MOST 1048576: true; the input reads as it did. -/
def fnMissingSelfUptoRow : OpenClaim := { program := "ytgkgdnocleajcaa", sum := "70acfb513073fcf8e8d2fe4a4ec48f07637a67e861858a80247159cb4fb5d275", func := "loop.example/atomicspectra/laws.FnMissingSelf", spec := "fnMissingSelf", unfollowed := true, recurses := true, apart := false, narrowed := true }
def FnMissingSelfUptoSaid : Prop := fnMissingSelfUptoRow.holds Try.pinned (OpenSpec.upto fnMissingSelfSpec)

/-- 'laws.FnExactSchemeDecays', WHERE WHAT IT READS IS OF BULK AT MOST 1048576: true; the input reads as it did. -/
def fnExactSchemeDecaysUptoRow : OpenClaim := { program := "ytgkgdnocleajcaa", sum := "70acfb513073fcf8e8d2fe4a4ec48f07637a67e861858a80247159cb4fb5d275", func := "loop.example/atomicspectra/laws.FnExactSchemeDecays", spec := "fnExactSchemeDecays", unfollowed := true, recurses := true, apart := false, narrowed := true }
def FnExactSchemeDecaysUptoSaid : Prop := fnExactSchemeDecaysUptoRow.holds Try.pinned (OpenSpec.upto fnExactSchemeDecaysSpec)

end Rows
end Go.Proofs.Ytgkgdnocleajcaa
