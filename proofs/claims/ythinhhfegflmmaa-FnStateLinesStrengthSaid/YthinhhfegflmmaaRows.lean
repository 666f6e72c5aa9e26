/-
  No cell of these rows narrows 'for every input' (looked for: loops, veiled, ifaces, maps, wideKeys, modest, calm, conditions, laid).
  DERIVED. THE GIVEN ROWS OF THIS SEAT. 5 by the template 'for every input the law returns true; each argument reads behind the call as it read before'; 0 by the template 'total and deterministic' (their statements: YthinhhfegflmmaaTotals.lean).
  GIVEN WITH THE SEED: the statements are not yours to turn. If you find one false, say at which input.
  Laid BY PROGRAM, IN A SANDBOX (cutbox-rows.mjs): the forced cells as the released guide's own fill.sh prints them over the translation d14681823392edaf… (all of the seat's roots in one cut). By AI agents, Wed Nov 11 2026. No macro, syntax, notation, axiom, sorry.
-/
import Derived.Test.YthinhhfegflmmaaChecked
import GoSem.Claim
import GoSem.ClaimJoined
import GoSem.ClaimMapViews
import Derived.JoinedTies
import Derived.KernelRfl
namespace Go.Proofs.Ythinhhfegflmmaa
/- THE CELL 'sum', in the pinned program and in every row, IS THE sha256 OF THE DUMP (.gsa) THAT YthinhhfegflmmaaProg.lean LOADS. Nothing in Lean hashes anything: it is a label: what it is worth is what the hold of that sum in a sandbox is worth. -/
noncomputable def Try.pinned : Pinned := { name := "ythinhhfegflmmaa", sum := "d14681823392edafadbf46c64aec146bfb2d7864f29250052c6170c9307a6898", checked := Try.checked }
namespace Rows
def none {H : Type} : Left H := { results := [], args := [] }

/-- 'laws.FnStrengthRatio': WHATEVER THE INPUT: true; the input reads as it did. -/
def fnStrengthRatioSpec : ChangeSpec := { name := "fnStrengthRatio", fn := fun _ => fun
  | [d1, d2] => { results := [.lit (.bool true)], args := [d1, d2] }
  | _ => none }
def fnStrengthRatioRow : OpenClaim := { program := "ythinhhfegflmmaa", sum := "d14681823392edafadbf46c64aec146bfb2d7864f29250052c6170c9307a6898", func := "loop.example/atomicspectra/laws.FnStrengthRatio", spec := "fnStrengthRatio", unfollowed := true, recurses := true, apart := false }
def FnStrengthRatioSaid : Prop := fnStrengthRatioRow.holds Try.pinned (OpenSpec.ofChange fnStrengthRatioSpec)

/-- ITS FALSE NEIGHBOUR: 'it returns false'. Refute it at one input. -/
def fnStrengthRatioWrong : ChangeSpec := { name := "fnStrengthRatio", fn := fun _ => fun
  | [d1, d2] => { results := [.lit (.bool false)], args := [d1, d2] }
  | _ => none }
def FnStrengthRatioWrongFalsely : Prop := fnStrengthRatioRow.holds Try.pinned (OpenSpec.ofChange fnStrengthRatioWrong)

/-- 'laws.FnStrengthSum': WHATEVER THE INPUT: true; the input reads as it did. -/
def fnStrengthSumSpec : ChangeSpec := { name := "fnStrengthSum", fn := fun _ => fun
  | [d] => { results := [.lit (.bool true)], args := [d] }
  | _ => none }
def fnStrengthSumRow : OpenClaim := { program := "ythinhhfegflmmaa", sum := "d14681823392edafadbf46c64aec146bfb2d7864f29250052c6170c9307a6898", func := "loop.example/atomicspectra/laws.FnStrengthSum", spec := "fnStrengthSum", unfollowed := true, recurses := true, apart := false }
def FnStrengthSumSaid : Prop := fnStrengthSumRow.holds Try.pinned (OpenSpec.ofChange fnStrengthSumSpec)

/-- ITS FALSE NEIGHBOUR: 'it returns false'. Refute it at one input. -/
def fnStrengthSumWrong : ChangeSpec := { name := "fnStrengthSum", fn := fun _ => fun
  | [d] => { results := [.lit (.bool false)], args := [d] }
  | _ => none }
def FnStrengthSumWrongFalsely : Prop := fnStrengthSumRow.holds Try.pinned (OpenSpec.ofChange fnStrengthSumWrong)

/-- 'laws.FnStrengthTotal': WHATEVER THE INPUT: true; the input reads as it did. -/
def fnStrengthTotalSpec : ChangeSpec := { name := "fnStrengthTotal", fn := fun _ => fun
  | [d] => { results := [.lit (.bool true)], args := [d] }
  | _ => none }
def fnStrengthTotalRow : OpenClaim := { program := "ythinhhfegflmmaa", sum := "d14681823392edafadbf46c64aec146bfb2d7864f29250052c6170c9307a6898", func := "loop.example/atomicspectra/laws.FnStrengthTotal", spec := "fnStrengthTotal", unfollowed := true, recurses := true, apart := false }
def FnStrengthTotalSaid : Prop := fnStrengthTotalRow.holds Try.pinned (OpenSpec.ofChange fnStrengthTotalSpec)

/-- ITS FALSE NEIGHBOUR: 'it returns false'. Refute it at one input. -/
def fnStrengthTotalWrong : ChangeSpec := { name := "fnStrengthTotal", fn := fun _ => fun
  | [d] => { results := [.lit (.bool false)], args := [d] }
  | _ => none }
def FnStrengthTotalWrongFalsely : Prop := fnStrengthTotalRow.holds Try.pinned (OpenSpec.ofChange fnStrengthTotalWrong)

/-- 'laws.FnAllowedStrength': WHATEVER THE INPUT: true; the input reads as it did. -/
def fnAllowedStrengthSpec : ChangeSpec := { name := "fnAllowedStrength", fn := fun _ => fun
  | [d] => { results := [.lit (.bool true)], args := [d] }
  | _ => none }
def fnAllowedStrengthRow : OpenClaim := { program := "ythinhhfegflmmaa", sum := "d14681823392edafadbf46c64aec146bfb2d7864f29250052c6170c9307a6898", func := "loop.example/atomicspectra/laws.FnAllowedStrength", spec := "fnAllowedStrength", unfollowed := true, recurses := true, apart := false }
def FnAllowedStrengthSaid : Prop := fnAllowedStrengthRow.holds Try.pinned (OpenSpec.ofChange fnAllowedStrengthSpec)

/-- ITS FALSE NEIGHBOUR: 'it returns false'. Refute it at one input. -/
def fnAllowedStrengthWrong : ChangeSpec := { name := "fnAllowedStrength", fn := fun _ => fun
  | [d] => { results := [.lit (.bool false)], args := [d] }
  | _ => none }
def FnAllowedStrengthWrongFalsely : Prop := fnAllowedStrengthRow.holds Try.pinned (OpenSpec.ofChange fnAllowedStrengthWrong)

/-- 'laws.FnStateLinesStrength': WHATEVER THE INPUT: true; the input reads as it did. -/
def fnStateLinesStrengthSpec : ChangeSpec := { name := "fnStateLinesStrength", fn := fun _ => fun
  | [d] => { results := [.lit (.bool true)], args := [d] }
  | _ => none }
def fnStateLinesStrengthRow : OpenClaim := { program := "ythinhhfegflmmaa", sum := "d14681823392edafadbf46c64aec146bfb2d7864f29250052c6170c9307a6898", func := "loop.example/atomicspectra/laws.FnStateLinesStrength", spec := "fnStateLinesStrength", unfollowed := true, recurses := true, apart := false }
def FnStateLinesStrengthSaid : Prop := fnStateLinesStrengthRow.holds Try.pinned (OpenSpec.ofChange fnStateLinesStrengthSpec)

/-- ITS FALSE NEIGHBOUR: 'it returns false'. Refute it at one input. -/
def fnStateLinesStrengthWrong : ChangeSpec := { name := "fnStateLinesStrength", fn := fun _ => fun
  | [d] => { results := [.lit (.bool false)], args := [d] }
  | _ => none }
def FnStateLinesStrengthWrongFalsely : Prop := fnStateLinesStrengthRow.holds Try.pinned (OpenSpec.ofChange fnStateLinesStrengthWrong)

/- THE SECOND FORM. 'bulk': how many values and letters a reading holds, each counted each time it is reached (what is shared counts as often as it is met; a slice's spare places count too). A statement '..UptoSaid' is the law's where the arguments, and the package variables that the reading takes, are together of bulk at most 1048576: NARROWER than '..Said'. Prove '..Said' where nothing that the law and all that it calls make is longer than what came in: it says more and counts as full. Else prove '..UptoSaid'. A law counts once. -/
mutual
def uptoBulk {H : Type} : DataW H → Nat
  | .lit (.string bytes) => bytes.length + 1
  | .lit _ => 1
  | .nil => 1
  | .ptr d => uptoBulk d + 1
  | .slice elems spare => uptoBulkAll elems + uptoBulkAll spare + 1
  | .agg parts => uptoBulkAll parts + 1
  | .iface _ d => uptoBulk d + 1
  | .map entries => uptoBulkEntries entries + 1
  | .held _ => 1
def uptoBulkAll {H : Type} : List (DataW H) → Nat
  | [] => 0
  | d :: r => uptoBulk d + uptoBulkAll r
def uptoBulkEntries {H : Type} : List (Lit × DataW H) → Nat
  | [] => 0
  | x :: r => uptoBulkEntry x + uptoBulkEntries r
def uptoBulkEntry {H : Type} : Lit × DataW H → Nat
  | (.string bytes, d) => bytes.length + uptoBulk d + 1
  | (_, d) => uptoBulk d + 1
 end
def uptoSmall : (H : Type) → List (DataW H) → Bool := fun _ ds => decide (uptoBulkAll ds ≤ 1048576)
def OpenSpec.upto (s : _root_.Go.ChangeSpec) : _root_.Go.OpenSpec := { _root_.Go.OpenSpec.ofChange s with cond := some uptoSmall }

/-- 'laws.FnStrengthRatio', WHERE WHAT IT READS IS OF BULK AT MOST 1048576: true; the input reads as it did. -/
def fnStrengthRatioUptoRow : OpenClaim := { program := "ythinhhfegflmmaa", sum := "d14681823392edafadbf46c64aec146bfb2d7864f29250052c6170c9307a6898", func := "loop.example/atomicspectra/laws.FnStrengthRatio", spec := "fnStrengthRatio", unfollowed := true, recurses := true, apart := false, narrowed := true }
def FnStrengthRatioUptoSaid : Prop := fnStrengthRatioUptoRow.holds Try.pinned (OpenSpec.upto fnStrengthRatioSpec)

/-- 'laws.FnStrengthSum', WHERE WHAT IT READS IS OF BULK AT MOST 1048576: true; the input reads as it did. -/
def fnStrengthSumUptoRow : OpenClaim := { program := "ythinhhfegflmmaa", sum := "d14681823392edafadbf46c64aec146bfb2d7864f29250052c6170c9307a6898", func := "loop.example/atomicspectra/laws.FnStrengthSum", spec := "fnStrengthSum", unfollowed := true, recurses := true, apart := false, narrowed := true }
def FnStrengthSumUptoSaid : Prop := fnStrengthSumUptoRow.holds Try.pinned (OpenSpec.upto fnStrengthSumSpec)

/-- 'laws.FnStrengthTotal', WHERE WHAT IT READS IS OF BULK AT MOST 1048576: true; the input reads as it did. -/
def fnStrengthTotalUptoRow : OpenClaim := { program := "ythinhhfegflmmaa", sum := "d14681823392edafadbf46c64aec146bfb2d7864f29250052c6170c9307a6898", func := "loop.example/atomicspectra/laws.FnStrengthTotal", spec := "fnStrengthTotal", unfollowed := true, recurses := true, apart := false, narrowed := true }
def FnStrengthTotalUptoSaid : Prop := fnStrengthTotalUptoRow.holds Try.pinned (OpenSpec.upto fnStrengthTotalSpec)

/-- 'laws.FnAllowedStrength', WHERE WHAT IT READS IS OF BULK AT MOST 1048576: true; the input reads as it did. -/
def fnAllowedStrengthUptoRow : OpenClaim := { program := "ythinhhfegflmmaa", sum := "d14681823392edafadbf46c64aec146bfb2d7864f29250052c6170c9307a6898", func := "loop.example/atomicspectra/laws.FnAllowedStrength", spec := "fnAllowedStrength", unfollowed := true, recurses := true, apart := false, narrowed := true }
def FnAllowedStrengthUptoSaid : Prop := fnAllowedStrengthUptoRow.holds Try.pinned (OpenSpec.upto fnAllowedStrengthSpec)

/-- 'laws.FnStateLinesStrength', WHERE WHAT IT READS IS OF BULK AT MOST 1048576: true; the input reads as it did. -/
def fnStateLinesStrengthUptoRow : OpenClaim := { program := "ythinhhfegflmmaa", sum := "d14681823392edafadbf46c64aec146bfb2d7864f29250052c6170c9307a6898", func := "loop.example/atomicspectra/laws.FnStateLinesStrength", spec := "fnStateLinesStrength", unfollowed := true, recurses := true, apart := false, narrowed := true }
def FnStateLinesStrengthUptoSaid : Prop := fnStateLinesStrengthUptoRow.holds Try.pinned (OpenSpec.upto fnStateLinesStrengthSpec)

end Rows
end Go.Proofs.Ythinhhfegflmmaa
