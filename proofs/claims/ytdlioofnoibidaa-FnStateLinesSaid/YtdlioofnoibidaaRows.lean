/-
  No cell of these rows narrows 'for every input' (looked for: loops, veiled, ifaces, maps, wideKeys, modest, calm, conditions, laid).
  DERIVED. THE GIVEN ROWS OF THIS SEAT. 9 by the template 'for every input the law returns true; each argument reads behind the call as it read before'; 0 by the template 'total and deterministic' (their statements: YtdlioofnoibidaaTotals.lean).
  GIVEN WITH THE SEED: the statements are not yours to turn. If you find one false, say at which input.
  Laid BY PROGRAM, IN A SANDBOX (cutbox-rows.mjs): the forced cells as the released guide's own fill.sh prints them over the translation f8f7c142fb00a14b… (all of the seat's roots in one cut). By AI agents, Wed Nov 11 2026. No macro, syntax, notation, axiom, sorry.
-/
import Derived.Test.YtdlioofnoibidaaChecked
import GoSem.Claim
import GoSem.ClaimJoined
import GoSem.ClaimMapViews
import Derived.JoinedTies
import Derived.KernelRfl
namespace Go.Proofs.Ytdlioofnoibidaa
/- THE CELL 'sum', in the pinned program and in every row, IS THE sha256 OF THE DUMP (.gsa) THAT YtdlioofnoibidaaProg.lean LOADS. Nothing in Lean hashes anything: it is a label: what it is worth is what the hold of that sum in a sandbox is worth. -/
noncomputable def Try.pinned : Pinned := { name := "ytdlioofnoibidaa", sum := "f8f7c142fb00a14bc47bd412bb2f6c45871b653626a22cf4f82f14089dd9a209", checked := Try.checked }
namespace Rows
def none {H : Type} : Left H := { results := [], args := [] }

/-- 'laws.FnExactStateValid': WHATEVER THE INPUT: true; the input reads as it did. -/
def fnExactStateValidSpec : ChangeSpec := { name := "fnExactStateValid", fn := fun _ => fun
  | [d] => { results := [.lit (.bool true)], args := [d] }
  | _ => none }
def fnExactStateValidRow : OpenClaim := { program := "ytdlioofnoibidaa", sum := "f8f7c142fb00a14bc47bd412bb2f6c45871b653626a22cf4f82f14089dd9a209", func := "loop.example/atomicspectra/laws.FnExactStateValid", spec := "fnExactStateValid", apart := false }
def FnExactStateValidSaid : Prop := fnExactStateValidRow.holds Try.pinned (OpenSpec.ofChange fnExactStateValidSpec)

/-- ITS FALSE NEIGHBOUR: 'it returns false'. Refute it at one input. -/
def fnExactStateValidWrong : ChangeSpec := { name := "fnExactStateValid", fn := fun _ => fun
  | [d] => { results := [.lit (.bool false)], args := [d] }
  | _ => none }
def FnExactStateValidWrongFalsely : Prop := fnExactStateValidRow.holds Try.pinned (OpenSpec.ofChange fnExactStateValidWrong)

/-- 'laws.FnExactStateAllowed': WHATEVER THE INPUT: true; the input reads as it did. -/
def fnExactStateAllowedSpec : ChangeSpec := { name := "fnExactStateAllowed", fn := fun _ => fun
  | [d1, d2] => { results := [.lit (.bool true)], args := [d1, d2] }
  | _ => none }
def fnExactStateAllowedRow : OpenClaim := { program := "ytdlioofnoibidaa", sum := "f8f7c142fb00a14bc47bd412bb2f6c45871b653626a22cf4f82f14089dd9a209", func := "loop.example/atomicspectra/laws.FnExactStateAllowed", spec := "fnExactStateAllowed", unfollowed := true, recurses := true, apart := false }
def FnExactStateAllowedSaid : Prop := fnExactStateAllowedRow.holds Try.pinned (OpenSpec.ofChange fnExactStateAllowedSpec)

/-- ITS FALSE NEIGHBOUR: 'it returns false'. Refute it at one input. -/
def fnExactStateAllowedWrong : ChangeSpec := { name := "fnExactStateAllowed", fn := fun _ => fun
  | [d1, d2] => { results := [.lit (.bool false)], args := [d1, d2] }
  | _ => none }
def FnExactStateAllowedWrongFalsely : Prop := fnExactStateAllowedRow.holds Try.pinned (OpenSpec.ofChange fnExactStateAllowedWrong)

/-- 'laws.FnStatesOf': WHATEVER THE INPUT: true; the input reads as it did. -/
def fnStatesOfSpec : ChangeSpec := { name := "fnStatesOf", fn := fun _ => fun
  | [d] => { results := [.lit (.bool true)], args := [d] }
  | _ => none }
def fnStatesOfRow : OpenClaim := { program := "ytdlioofnoibidaa", sum := "f8f7c142fb00a14bc47bd412bb2f6c45871b653626a22cf4f82f14089dd9a209", func := "loop.example/atomicspectra/laws.FnStatesOf", spec := "fnStatesOf", apart := false }
def FnStatesOfSaid : Prop := fnStatesOfRow.holds Try.pinned (OpenSpec.ofChange fnStatesOfSpec)

/-- ITS FALSE NEIGHBOUR: 'it returns false'. Refute it at one input. -/
def fnStatesOfWrong : ChangeSpec := { name := "fnStatesOf", fn := fun _ => fun
  | [d] => { results := [.lit (.bool false)], args := [d] }
  | _ => none }
def FnStatesOfWrongFalsely : Prop := fnStatesOfRow.holds Try.pinned (OpenSpec.ofChange fnStatesOfWrong)

/-- 'laws.FnExactStatesOf': WHATEVER THE INPUT: true; the input reads as it did. -/
def fnExactStatesOfSpec : ChangeSpec := { name := "fnExactStatesOf", fn := fun _ => fun
  | [d1, d2] => { results := [.lit (.bool true)], args := [d1, d2] }
  | _ => none }
def fnExactStatesOfRow : OpenClaim := { program := "ytdlioofnoibidaa", sum := "f8f7c142fb00a14bc47bd412bb2f6c45871b653626a22cf4f82f14089dd9a209", func := "loop.example/atomicspectra/laws.FnExactStatesOf", spec := "fnExactStatesOf", apart := false }
def FnExactStatesOfSaid : Prop := fnExactStatesOfRow.holds Try.pinned (OpenSpec.ofChange fnExactStatesOfSpec)

/-- ITS FALSE NEIGHBOUR: 'it returns false'. Refute it at one input. -/
def fnExactStatesOfWrong : ChangeSpec := { name := "fnExactStatesOf", fn := fun _ => fun
  | [d1, d2] => { results := [.lit (.bool false)], args := [d1, d2] }
  | _ => none }
def FnExactStatesOfWrongFalsely : Prop := fnExactStatesOfRow.holds Try.pinned (OpenSpec.ofChange fnExactStatesOfWrong)

/-- 'laws.FnAllowed': WHATEVER THE INPUT: true; the input reads as it did. -/
def fnAllowedSpec : ChangeSpec := { name := "fnAllowed", fn := fun _ => fun
  | [d] => { results := [.lit (.bool true)], args := [d] }
  | _ => none }
def fnAllowedRow : OpenClaim := { program := "ytdlioofnoibidaa", sum := "f8f7c142fb00a14bc47bd412bb2f6c45871b653626a22cf4f82f14089dd9a209", func := "loop.example/atomicspectra/laws.FnAllowed", spec := "fnAllowed", unfollowed := true, recurses := true, apart := false }
def FnAllowedSaid : Prop := fnAllowedRow.holds Try.pinned (OpenSpec.ofChange fnAllowedSpec)

/-- ITS FALSE NEIGHBOUR: 'it returns false'. Refute it at one input. -/
def fnAllowedWrong : ChangeSpec := { name := "fnAllowed", fn := fun _ => fun
  | [d] => { results := [.lit (.bool false)], args := [d] }
  | _ => none }
def FnAllowedWrongFalsely : Prop := fnAllowedRow.holds Try.pinned (OpenSpec.ofChange fnAllowedWrong)

/-- 'laws.FnAllowedFlip': WHATEVER THE INPUT: true; the input reads as it did. -/
def fnAllowedFlipSpec : ChangeSpec := { name := "fnAllowedFlip", fn := fun _ => fun
  | [d] => { results := [.lit (.bool true)], args := [d] }
  | _ => none }
def fnAllowedFlipRow : OpenClaim := { program := "ytdlioofnoibidaa", sum := "f8f7c142fb00a14bc47bd412bb2f6c45871b653626a22cf4f82f14089dd9a209", func := "loop.example/atomicspectra/laws.FnAllowedFlip", spec := "fnAllowedFlip", unfollowed := true, recurses := true, apart := false }
def FnAllowedFlipSaid : Prop := fnAllowedFlipRow.holds Try.pinned (OpenSpec.ofChange fnAllowedFlipSpec)

/-- ITS FALSE NEIGHBOUR: 'it returns false'. Refute it at one input. -/
def fnAllowedFlipWrong : ChangeSpec := { name := "fnAllowedFlip", fn := fun _ => fun
  | [d] => { results := [.lit (.bool false)], args := [d] }
  | _ => none }
def FnAllowedFlipWrongFalsely : Prop := fnAllowedFlipRow.holds Try.pinned (OpenSpec.ofChange fnAllowedFlipWrong)

/-- 'laws.FnAllowedTop': WHATEVER THE INPUT: true; the input reads as it did. -/
def fnAllowedTopSpec : ChangeSpec := { name := "fnAllowedTop", fn := fun _ => fun
  | [d] => { results := [.lit (.bool true)], args := [d] }
  | _ => none }
def fnAllowedTopRow : OpenClaim := { program := "ytdlioofnoibidaa", sum := "f8f7c142fb00a14bc47bd412bb2f6c45871b653626a22cf4f82f14089dd9a209", func := "loop.example/atomicspectra/laws.FnAllowedTop", spec := "fnAllowedTop", unfollowed := true, recurses := true, apart := false }
def FnAllowedTopSaid : Prop := fnAllowedTopRow.holds Try.pinned (OpenSpec.ofChange fnAllowedTopSpec)

/-- ITS FALSE NEIGHBOUR: 'it returns false'. Refute it at one input. -/
def fnAllowedTopWrong : ChangeSpec := { name := "fnAllowedTop", fn := fun _ => fun
  | [d] => { results := [.lit (.bool false)], args := [d] }
  | _ => none }
def FnAllowedTopWrongFalsely : Prop := fnAllowedTopRow.holds Try.pinned (OpenSpec.ofChange fnAllowedTopWrong)

/-- 'laws.FnExactStateLines': WHATEVER THE INPUT: true; the input reads as it did. -/
def fnExactStateLinesSpec : ChangeSpec := { name := "fnExactStateLines", fn := fun _ => fun
  | [d1, d2] => { results := [.lit (.bool true)], args := [d1, d2] }
  | _ => none }
def fnExactStateLinesRow : OpenClaim := { program := "ytdlioofnoibidaa", sum := "f8f7c142fb00a14bc47bd412bb2f6c45871b653626a22cf4f82f14089dd9a209", func := "loop.example/atomicspectra/laws.FnExactStateLines", spec := "fnExactStateLines", unfollowed := true, recurses := true, apart := false }
def FnExactStateLinesSaid : Prop := fnExactStateLinesRow.holds Try.pinned (OpenSpec.ofChange fnExactStateLinesSpec)

/-- ITS FALSE NEIGHBOUR: 'it returns false'. Refute it at one input. -/
def fnExactStateLinesWrong : ChangeSpec := { name := "fnExactStateLines", fn := fun _ => fun
  | [d1, d2] => { results := [.lit (.bool false)], args := [d1, d2] }
  | _ => none }
def FnExactStateLinesWrongFalsely : Prop := fnExactStateLinesRow.holds Try.pinned (OpenSpec.ofChange fnExactStateLinesWrong)

/-- 'laws.FnStateLines': WHATEVER THE INPUT: true; the input reads as it did. -/
def fnStateLinesSpec : ChangeSpec := { name := "fnStateLines", fn := fun _ => fun
  | [d] => { results := [.lit (.bool true)], args := [d] }
  | _ => none }
def fnStateLinesRow : OpenClaim := { program := "ytdlioofnoibidaa", sum := "f8f7c142fb00a14bc47bd412bb2f6c45871b653626a22cf4f82f14089dd9a209", func := "loop.example/atomicspectra/laws.FnStateLines", spec := "fnStateLines", unfollowed := true, recurses := true, apart := false }
def FnStateLinesSaid : Prop := fnStateLinesRow.holds Try.pinned (OpenSpec.ofChange fnStateLinesSpec)

/-- ITS FALSE NEIGHBOUR: 'it returns false'. Refute it at one input. -/
def fnStateLinesWrong : ChangeSpec := { name := "fnStateLines", fn := fun _ => fun
  | [d] => { results := [.lit (.bool false)], args := [d] }
  | _ => none }
def FnStateLinesWrongFalsely : Prop := fnStateLinesRow.holds Try.pinned (OpenSpec.ofChange fnStateLinesWrong)

/- THE SECOND FORM. 'bulk': how many values and letters a reading holds, each counted each time it is reached (what is shared counts as often as it is met; a slice's spare places count too). A statement '..UptoSaid' is the law's where the arguments, and the package variables that the reading takes, are together of bulk at most 1048576: NARROWER than '..Said'. Prove '..Said' where nothing that the law and all that it calls make is longer than what came in: it says more and counts as full. Else prove '..UptoSaid'. A law counts once. -/
mutual
def uptoBulk {H : Type} : DataW H → Nat
  | .lit (.string bytes) => bytes.length + 1
  | .lit _ => 1
  | .nil => 1
  | .ptr d => uptoBulk d + 1
  | .slice elems spare => uptoBulkAll elems + uptoBulkAll spare + 1
  | .agg parts => uptoBulkAll parts + 1
  | .iface _ d => uptoBulk d + 1
  | .map entries => uptoBulkEntries entries + 1
  | .held _ => 1
def uptoBulkAll {H : Type} : List (DataW H) → Nat
  | [] => 0
  | d :: r => uptoBulk d + uptoBulkAll r
def uptoBulkEntries {H : Type} : List (Lit × DataW H) → Nat
  | [] => 0
  | x :: r => uptoBulkEntry x + uptoBulkEntries r
def uptoBulkEntry {H : Type} : Lit × DataW H → Nat
  | (.string bytes, d) => bytes.length + uptoBulk d + 1
  | (_, d) => uptoBulk d + 1
 end
def uptoSmall : (H : Type) → List (DataW H) → Bool := fun _ ds => decide (uptoBulkAll ds ≤ 1048576)
def OpenSpec.upto (s : _root_.Go.ChangeSpec) : _root_.Go.OpenSpec := { _root_.Go.OpenSpec.ofChange s with cond := some uptoSmall }

/-- 'laws.FnExactStateValid', WHERE WHAT IT READS IS OF BULK AT MOST 1048576: true; the input reads as it did. -/
def fnExactStateValidUptoRow : OpenClaim := { program := "ytdlioofnoibidaa", sum := "f8f7c142fb00a14bc47bd412bb2f6c45871b653626a22cf4f82f14089dd9a209", func := "loop.example/atomicspectra/laws.FnExactStateValid", spec := "fnExactStateValid", apart := false, narrowed := true }
def FnExactStateValidUptoSaid : Prop := fnExactStateValidUptoRow.holds Try.pinned (OpenSpec.upto fnExactStateValidSpec)

/-- 'laws.FnExactStateAllowed', WHERE WHAT IT READS IS OF BULK AT MOST 1048576: true; the input reads as it did. -/
def fnExactStateAllowedUptoRow : OpenClaim := { program := "ytdlioofnoibidaa", sum := "f8f7c142fb00a14bc47bd412bb2f6c45871b653626a22cf4f82f14089dd9a209", func := "loop.example/atomicspectra/laws.FnExactStateAllowed", spec := "fnExactStateAllowed", unfollowed := true, recurses := true, apart := false, narrowed := true }
def FnExactStateAllowedUptoSaid : Prop := fnExactStateAllowedUptoRow.holds Try.pinned (OpenSpec.upto fnExactStateAllowedSpec)

/-- 'laws.FnStatesOf', WHERE WHAT IT READS IS OF BULK AT MOST 1048576: true; the input reads as it did. -/
def fnStatesOfUptoRow : OpenClaim := { program := "ytdlioofnoibidaa", sum := "f8f7c142fb00a14bc47bd412bb2f6c45871b653626a22cf4f82f14089dd9a209", func := "loop.example/atomicspectra/laws.FnStatesOf", spec := "fnStatesOf", apart := false, narrowed := true }
def FnStatesOfUptoSaid : Prop := fnStatesOfUptoRow.holds Try.pinned (OpenSpec.upto fnStatesOfSpec)

/-- 'laws.FnExactStatesOf', WHERE WHAT IT READS IS OF BULK AT MOST 1048576: true; the input reads as it did. -/
def fnExactStatesOfUptoRow : OpenClaim := { program := "ytdlioofnoibidaa", sum := "f8f7c142fb00a14bc47bd412bb2f6c45871b653626a22cf4f82f14089dd9a209", func := "loop.example/atomicspectra/laws.FnExactStatesOf", spec := "fnExactStatesOf", apart := false, narrowed := true }
def FnExactStatesOfUptoSaid : Prop := fnExactStatesOfUptoRow.holds Try.pinned (OpenSpec.upto fnExactStatesOfSpec)

/-- 'laws.FnAllowed', WHERE WHAT IT READS IS OF BULK AT MOST 1048576: true; the input reads as it did. -/
def fnAllowedUptoRow : OpenClaim := { program := "ytdlioofnoibidaa", sum := "f8f7c142fb00a14bc47bd412bb2f6c45871b653626a22cf4f82f14089dd9a209", func := "loop.example/atomicspectra/laws.FnAllowed", spec := "fnAllowed", unfollowed := true, recurses := true, apart := false, narrowed := true }
def FnAllowedUptoSaid : Prop := fnAllowedUptoRow.holds Try.pinned (OpenSpec.upto fnAllowedSpec)

/-- 'laws.FnAllowedFlip', WHERE WHAT IT READS IS OF BULK AT MOST 1048576: true; the input reads as it did. -/
def fnAllowedFlipUptoRow : OpenClaim := { program := "ytdlioofnoibidaa", sum := "f8f7c142fb00a14bc47bd412bb2f6c45871b653626a22cf4f82f14089dd9a209", func := "loop.example/atomicspectra/laws.FnAllowedFlip", spec := "fnAllowedFlip", unfollowed := true, recurses := true, apart := false, narrowed := true }
def FnAllowedFlipUptoSaid : Prop := fnAllowedFlipUptoRow.holds Try.pinned (OpenSpec.upto fnAllowedFlipSpec)

/-- 'laws.FnAllowedTop', WHERE WHAT IT READS IS OF BULK AT MOST 1048576: true; the input reads as it did. -/
def fnAllowedTopUptoRow : OpenClaim := { program := "ytdlioofnoibidaa", sum := "f8f7c142fb00a14bc47bd412bb2f6c45871b653626a22cf4f82f14089dd9a209", func := "loop.example/atomicspectra/laws.FnAllowedTop", spec := "fnAllowedTop", unfollowed := true, recurses := true, apart := false, narrowed := true }
def FnAllowedTopUptoSaid : Prop := fnAllowedTopUptoRow.holds Try.pinned (OpenSpec.upto fnAllowedTopSpec)

/-- 'laws.FnExactStateLines', WHERE WHAT IT READS IS OF BULK AT MOST 1048576: true; the input reads as it did. -/
def fnExactStateLinesUptoRow : OpenClaim := { program := "ytdlioofnoibidaa", sum := "f8f7c142fb00a14bc47bd412bb2f6c45871b653626a22cf4f82f14089dd9a209", func := "loop.example/atomicspectra/laws.FnExactStateLines", spec := "fnExactStateLines", unfollowed := true, recurses := true, apart := false, narrowed := true }
def FnExactStateLinesUptoSaid : Prop := fnExactStateLinesUptoRow.holds Try.pinned (OpenSpec.upto fnExactStateLinesSpec)

/-- 'laws.FnStateLines', WHERE WHAT IT READS IS OF BULK AT MOST 1048576: true; the input reads as it did. -/
def fnStateLinesUptoRow : OpenClaim := { program := "ytdlioofnoibidaa", sum := "f8f7c142fb00a14bc47bd412bb2f6c45871b653626a22cf4f82f14089dd9a209", func := "loop.example/atomicspectra/laws.FnStateLines", spec := "fnStateLines", unfollowed := true, recurses := true, apart := false, narrowed := true }
def FnStateLinesUptoSaid : Prop := fnStateLinesUptoRow.holds Try.pinned (OpenSpec.upto fnStateLinesSpec)

end Rows
end Go.Proofs.Ytdlioofnoibidaa
