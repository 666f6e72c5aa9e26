/-
  No cell of these rows narrows 'for every input' (looked for: loops, veiled, ifaces, maps, wideKeys, modest, calm, conditions, laid).
  DERIVED. THE GIVEN ROWS OF THIS SEAT. 10 by the template 'for every input the law returns true; each argument reads behind the call as it read before'; 0 by the template 'total and deterministic' (their statements: YthdmpiioecogpaaTotals.lean).
  GIVEN WITH THE SEED: the statements are not yours to turn. If you find one false, say at which input.
  Laid BY PROGRAM, IN A SANDBOX (cutbox-rows.mjs): the forced cells as the released guide's own fill.sh prints them over the translation 4999620d1c17a1e5… (all of the seat's roots in one cut). By AI agents, Wed Nov 11 2026. No macro, syntax, notation, axiom, sorry.
-/
import Derived.Test.YthdmpiioecogpaaChecked
import GoSem.Claim
import GoSem.ClaimJoined
import GoSem.ClaimMapViews
import Derived.JoinedTies
import Derived.KernelRfl
namespace Go.Proofs.Ythdmpiioecogpaa
/- THE CELL 'sum', in the pinned program and in every row, IS THE sha256 OF THE DUMP (.gsa) THAT YthdmpiioecogpaaProg.lean LOADS. Nothing in Lean hashes anything: it is a label: what it is worth is what the hold of that sum in a sandbox is worth. -/
noncomputable def Try.pinned : Pinned := { name := "ythdmpiioecogpaa", sum := "4999620d1c17a1e53a69a27ef3f31246d2aa345bf266ecffb1eb72a332f44b15", checked := Try.checked }
namespace Rows
def none {H : Type} : Left H := { results := [], args := [] }

/-- 'laws.FnReach': WHATEVER THE INPUT: true; the input reads as it did. -/
def fnReachSpec : ChangeSpec := { name := "fnReach", fn := fun _ => fun
  | [d] => { results := [.lit (.bool true)], args := [d] }
  | _ => none }
def fnReachRow : OpenClaim := { program := "ythdmpiioecogpaa", sum := "4999620d1c17a1e53a69a27ef3f31246d2aa345bf266ecffb1eb72a332f44b15", func := "loop.example/atomicspectra/laws.FnReach", spec := "fnReach", unfollowed := true, recurses := true, apart := false }
def FnReachSaid : Prop := fnReachRow.holds Try.pinned (OpenSpec.ofChange fnReachSpec)

/-- ITS FALSE NEIGHBOUR: 'it returns false'. Refute it at one input. -/
def fnReachWrong : ChangeSpec := { name := "fnReach", fn := fun _ => fun
  | [d] => { results := [.lit (.bool false)], args := [d] }
  | _ => none }
def FnReachWrongFalsely : Prop := fnReachRow.holds Try.pinned (OpenSpec.ofChange fnReachWrong)

/-- 'laws.FnReachWhy': WHATEVER THE INPUT: true; the input reads as it did. -/
def fnReachWhySpec : ChangeSpec := { name := "fnReachWhy", fn := fun _ => fun
  | [d] => { results := [.lit (.bool true)], args := [d] }
  | _ => none }
def fnReachWhyRow : OpenClaim := { program := "ythdmpiioecogpaa", sum := "4999620d1c17a1e53a69a27ef3f31246d2aa345bf266ecffb1eb72a332f44b15", func := "loop.example/atomicspectra/laws.FnReachWhy", spec := "fnReachWhy", unfollowed := true, recurses := true, apart := false }
def FnReachWhySaid : Prop := fnReachWhyRow.holds Try.pinned (OpenSpec.ofChange fnReachWhySpec)

/-- ITS FALSE NEIGHBOUR: 'it returns false'. Refute it at one input. -/
def fnReachWhyWrong : ChangeSpec := { name := "fnReachWhy", fn := fun _ => fun
  | [d] => { results := [.lit (.bool false)], args := [d] }
  | _ => none }
def FnReachWhyWrongFalsely : Prop := fnReachWhyRow.holds Try.pinned (OpenSpec.ofChange fnReachWhyWrong)

/-- 'laws.FnDecays': WHATEVER THE INPUT: true; the input reads as it did. -/
def fnDecaysSpec : ChangeSpec := { name := "fnDecays", fn := fun _ => fun
  | [d] => { results := [.lit (.bool true)], args := [d] }
  | _ => none }
def fnDecaysRow : OpenClaim := { program := "ythdmpiioecogpaa", sum := "4999620d1c17a1e53a69a27ef3f31246d2aa345bf266ecffb1eb72a332f44b15", func := "loop.example/atomicspectra/laws.FnDecays", spec := "fnDecays", unfollowed := true, recurses := true, apart := false }
def FnDecaysSaid : Prop := fnDecaysRow.holds Try.pinned (OpenSpec.ofChange fnDecaysSpec)

/-- ITS FALSE NEIGHBOUR: 'it returns false'. Refute it at one input. -/
def fnDecaysWrong : ChangeSpec := { name := "fnDecays", fn := fun _ => fun
  | [d] => { results := [.lit (.bool false)], args := [d] }
  | _ => none }
def FnDecaysWrongFalsely : Prop := fnDecaysRow.holds Try.pinned (OpenSpec.ofChange fnDecaysWrong)

/-- 'laws.FnResting': WHATEVER THE INPUT: true; the input reads as it did. -/
def fnRestingSpec : ChangeSpec := { name := "fnResting", fn := fun _ => fun
  | [d] => { results := [.lit (.bool true)], args := [d] }
  | _ => none }
def fnRestingRow : OpenClaim := { program := "ythdmpiioecogpaa", sum := "4999620d1c17a1e53a69a27ef3f31246d2aa345bf266ecffb1eb72a332f44b15", func := "loop.example/atomicspectra/laws.FnResting", spec := "fnResting", unfollowed := true, recurses := true, apart := false }
def FnRestingSaid : Prop := fnRestingRow.holds Try.pinned (OpenSpec.ofChange fnRestingSpec)

/-- ITS FALSE NEIGHBOUR: 'it returns false'. Refute it at one input. -/
def fnRestingWrong : ChangeSpec := { name := "fnResting", fn := fun _ => fun
  | [d] => { results := [.lit (.bool false)], args := [d] }
  | _ => none }
def FnRestingWrongFalsely : Prop := fnRestingRow.holds Try.pinned (OpenSpec.ofChange fnRestingWrong)

/-- 'laws.FnExactSchemeReach': WHATEVER THE INPUT: true; the input reads as it did. -/
def fnExactSchemeReachSpec : ChangeSpec := { name := "fnExactSchemeReach", fn := fun _ => fun
  | [d] => { results := [.lit (.bool true)], args := [d] }
  | _ => none }
def fnExactSchemeReachRow : OpenClaim := { program := "ythdmpiioecogpaa", sum := "4999620d1c17a1e53a69a27ef3f31246d2aa345bf266ecffb1eb72a332f44b15", func := "loop.example/atomicspectra/laws.FnExactSchemeReach", spec := "fnExactSchemeReach", unfollowed := true, recurses := true, apart := false }
def FnExactSchemeReachSaid : Prop := fnExactSchemeReachRow.holds Try.pinned (OpenSpec.ofChange fnExactSchemeReachSpec)

/-- ITS FALSE NEIGHBOUR: 'it returns false'. Refute it at one input. -/
def fnExactSchemeReachWrong : ChangeSpec := { name := "fnExactSchemeReach", fn := fun _ => fun
  | [d] => { results := [.lit (.bool false)], args := [d] }
  | _ => none }
def FnExactSchemeReachWrongFalsely : Prop := fnExactSchemeReachRow.holds Try.pinned (OpenSpec.ofChange fnExactSchemeReachWrong)

/-- 'laws.FnExactMatchBest': WHATEVER THE INPUT: true; the input reads as it did. -/
def fnExactMatchBestSpec : ChangeSpec := { name := "fnExactMatchBest", fn := fun _ => fun
  | [d1, d2, d3] => { results := [.lit (.bool true)], args := [d1, d2, d3] }
  | _ => none }
def fnExactMatchBestRow : OpenClaim := { program := "ythdmpiioecogpaa", sum := "4999620d1c17a1e53a69a27ef3f31246d2aa345bf266ecffb1eb72a332f44b15", func := "loop.example/atomicspectra/laws.FnExactMatchBest", spec := "fnExactMatchBest", unfollowed := true, recurses := true, apart := false }
def FnExactMatchBestSaid : Prop := fnExactMatchBestRow.holds Try.pinned (OpenSpec.ofChange fnExactMatchBestSpec)

/-- ITS FALSE NEIGHBOUR: 'it returns false'. Refute it at one input. -/
def fnExactMatchBestWrong : ChangeSpec := { name := "fnExactMatchBest", fn := fun _ => fun
  | [d1, d2, d3] => { results := [.lit (.bool false)], args := [d1, d2, d3] }
  | _ => none }
def FnExactMatchBestWrongFalsely : Prop := fnExactMatchBestRow.holds Try.pinned (OpenSpec.ofChange fnExactMatchBestWrong)

/-- 'laws.FnExactSchemeResting': WHATEVER THE INPUT: true; the input reads as it did. -/
def fnExactSchemeRestingSpec : ChangeSpec := { name := "fnExactSchemeResting", fn := fun _ => fun
  | [d] => { results := [.lit (.bool true)], args := [d] }
  | _ => none }
def fnExactSchemeRestingRow : OpenClaim := { program := "ythdmpiioecogpaa", sum := "4999620d1c17a1e53a69a27ef3f31246d2aa345bf266ecffb1eb72a332f44b15", func := "loop.example/atomicspectra/laws.FnExactSchemeResting", spec := "fnExactSchemeResting", unfollowed := true, recurses := true, apart := false }
def FnExactSchemeRestingSaid : Prop := fnExactSchemeRestingRow.holds Try.pinned (OpenSpec.ofChange fnExactSchemeRestingSpec)

/-- ITS FALSE NEIGHBOUR: 'it returns false'. Refute it at one input. -/
def fnExactSchemeRestingWrong : ChangeSpec := { name := "fnExactSchemeResting", fn := fun _ => fun
  | [d] => { results := [.lit (.bool false)], args := [d] }
  | _ => none }
def FnExactSchemeRestingWrongFalsely : Prop := fnExactSchemeRestingRow.holds Try.pinned (OpenSpec.ofChange fnExactSchemeRestingWrong)

/-- 'laws.FnMatch': WHATEVER THE INPUT: true; the input reads as it did. -/
def fnMatchSpec : ChangeSpec := { name := "fnMatch", fn := fun _ => fun
  | [d] => { results := [.lit (.bool true)], args := [d] }
  | _ => none }
def fnMatchRow : OpenClaim := { program := "ythdmpiioecogpaa", sum := "4999620d1c17a1e53a69a27ef3f31246d2aa345bf266ecffb1eb72a332f44b15", func := "loop.example/atomicspectra/laws.FnMatch", spec := "fnMatch", unfollowed := true, recurses := true, apart := false }
def FnMatchSaid : Prop := fnMatchRow.holds Try.pinned (OpenSpec.ofChange fnMatchSpec)

/-- ITS FALSE NEIGHBOUR: 'it returns false'. Refute it at one input. -/
def fnMatchWrong : ChangeSpec := { name := "fnMatch", fn := fun _ => fun
  | [d] => { results := [.lit (.bool false)], args := [d] }
  | _ => none }
def FnMatchWrongFalsely : Prop := fnMatchRow.holds Try.pinned (OpenSpec.ofChange fnMatchWrong)

/-- 'laws.FnMatchMore': WHATEVER THE INPUT: true; the input reads as it did. -/
def fnMatchMoreSpec : ChangeSpec := { name := "fnMatchMore", fn := fun _ => fun
  | [d] => { results := [.lit (.bool true)], args := [d] }
  | _ => none }
def fnMatchMoreRow : OpenClaim := { program := "ythdmpiioecogpaa", sum := "4999620d1c17a1e53a69a27ef3f31246d2aa345bf266ecffb1eb72a332f44b15", func := "loop.example/atomicspectra/laws.FnMatchMore", spec := "fnMatchMore", unfollowed := true, recurses := true, apart := false }
def FnMatchMoreSaid : Prop := fnMatchMoreRow.holds Try.pinned (OpenSpec.ofChange fnMatchMoreSpec)

/-- ITS FALSE NEIGHBOUR: 'it returns false'. Refute it at one input. -/
def fnMatchMoreWrong : ChangeSpec := { name := "fnMatchMore", fn := fun _ => fun
  | [d] => { results := [.lit (.bool false)], args := [d] }
  | _ => none }
def FnMatchMoreWrongFalsely : Prop := fnMatchMoreRow.holds Try.pinned (OpenSpec.ofChange fnMatchMoreWrong)

/-- 'laws.FnMatchBest': WHATEVER THE INPUT: true; the input reads as it did. -/
def fnMatchBestSpec : ChangeSpec := { name := "fnMatchBest", fn := fun _ => fun
  | [d] => { results := [.lit (.bool true)], args := [d] }
  | _ => none }
def fnMatchBestRow : OpenClaim := { program := "ythdmpiioecogpaa", sum := "4999620d1c17a1e53a69a27ef3f31246d2aa345bf266ecffb1eb72a332f44b15", func := "loop.example/atomicspectra/laws.FnMatchBest", spec := "fnMatchBest", unfollowed := true, recurses := true, apart := false }
def FnMatchBestSaid : Prop := fnMatchBestRow.holds Try.pinned (OpenSpec.ofChange fnMatchBestSpec)

/-- ITS FALSE NEIGHBOUR: 'it returns false'. Refute it at one input. -/
def fnMatchBestWrong : ChangeSpec := { name := "fnMatchBest", fn := fun _ => fun
  | [d] => { results := [.lit (.bool false)], args := [d] }
  | _ => none }
def FnMatchBestWrongFalsely : Prop := fnMatchBestRow.holds Try.pinned (OpenSpec.ofChange fnMatchBestWrong)

/- THE SECOND FORM. 'bulk': how many values and letters a reading holds, each counted each time it is reached (what is shared counts as often as it is met; a slice's spare places count too). A statement '..UptoSaid' is the law's where the arguments, and the package variables that the reading takes, are together of bulk at most 1048576: NARROWER than '..Said'. Prove '..Said' where nothing that the law and all that it calls make is longer than what came in: it says more and counts as full. Else prove '..UptoSaid'. A law counts once. -/
mutual
def uptoBulk {H : Type} : DataW H → Nat
  | .lit (.string bytes) => bytes.length + 1
  | .lit _ => 1
  | .nil => 1
  | .ptr d => uptoBulk d + 1
  | .slice elems spare => uptoBulkAll elems + uptoBulkAll spare + 1
  | .agg parts => uptoBulkAll parts + 1
  | .iface _ d => uptoBulk d + 1
  | .map entries => uptoBulkEntries entries + 1
  | .held _ => 1
def uptoBulkAll {H : Type} : List (DataW H) → Nat
  | [] => 0
  | d :: r => uptoBulk d + uptoBulkAll r
def uptoBulkEntries {H : Type} : List (Lit × DataW H) → Nat
  | [] => 0
  | x :: r => uptoBulkEntry x + uptoBulkEntries r
def uptoBulkEntry {H : Type} : Lit × DataW H → Nat
  | (.string bytes, d) => bytes.length + uptoBulk d + 1
  | (_, d) => uptoBulk d + 1
 end
def uptoSmall : (H : Type) → List (DataW H) → Bool := fun _ ds => decide (uptoBulkAll ds ≤ 1048576)
def OpenSpec.upto (s : _root_.Go.ChangeSpec) : _root_.Go.OpenSpec := { _root_.Go.OpenSpec.ofChange s with cond := some uptoSmall }

/-- 'laws.FnReach', WHERE WHAT IT READS IS OF BULK AT MOST 1048576: true; the input reads as it did. -/
def fnReachUptoRow : OpenClaim := { program := "ythdmpiioecogpaa", sum := "4999620d1c17a1e53a69a27ef3f31246d2aa345bf266ecffb1eb72a332f44b15", func := "loop.example/atomicspectra/laws.FnReach", spec := "fnReach", unfollowed := true, recurses := true, apart := false, narrowed := true }
def FnReachUptoSaid : Prop := fnReachUptoRow.holds Try.pinned (OpenSpec.upto fnReachSpec)

/-- 'laws.FnReachWhy', WHERE WHAT IT READS IS OF BULK AT MOST 1048576: true; the input reads as it did. -/
def fnReachWhyUptoRow : OpenClaim := { program := "ythdmpiioecogpaa", sum := "4999620d1c17a1e53a69a27ef3f31246d2aa345bf266ecffb1eb72a332f44b15", func := "loop.example/atomicspectra/laws.FnReachWhy", spec := "fnReachWhy", unfollowed := true, recurses := true, apart := false, narrowed := true }
def FnReachWhyUptoSaid : Prop := fnReachWhyUptoRow.holds Try.pinned (OpenSpec.upto fnReachWhySpec)

/-- 'laws.FnDecays', WHERE WHAT IT READS IS OF BULK AT MOST 1048576: true; the input reads as it did. -/
def fnDecaysUptoRow : OpenClaim := { program := "ythdmpiioecogpaa", sum := "4999620d1c17a1e53a69a27ef3f31246d2aa345bf266ecffb1eb72a332f44b15", func := "loop.example/atomicspectra/laws.FnDecays", spec := "fnDecays", unfollowed := true, recurses := true, apart := false, narrowed := true }
def FnDecaysUptoSaid : Prop := fnDecaysUptoRow.holds Try.pinned (OpenSpec.upto fnDecaysSpec)

/-- 'laws.FnResting', WHERE WHAT IT READS IS OF BULK AT MOST 1048576: true; the input reads as it did. -/
def fnRestingUptoRow : OpenClaim := { program := "ythdmpiioecogpaa", sum := "4999620d1c17a1e53a69a27ef3f31246d2aa345bf266ecffb1eb72a332f44b15", func := "loop.example/atomicspectra/laws.FnResting", spec := "fnResting", unfollowed := true, recurses := true, apart := false, narrowed := true }
def FnRestingUptoSaid : Prop := fnRestingUptoRow.holds Try.pinned (OpenSpec.upto fnRestingSpec)

/-- 'laws.FnExactSchemeReach', WHERE WHAT IT READS IS OF BULK AT MOST 1048576: true; the input reads as it did. -/
def fnExactSchemeReachUptoRow : OpenClaim := { program := "ythdmpiioecogpaa", sum := "4999620d1c17a1e53a69a27ef3f31246d2aa345bf266ecffb1eb72a332f44b15", func := "loop.example/atomicspectra/laws.FnExactSchemeReach", spec := "fnExactSchemeReach", unfollowed := true, recurses := true, apart := false, narrowed := true }
def FnExactSchemeReachUptoSaid : Prop := fnExactSchemeReachUptoRow.holds Try.pinned (OpenSpec.upto fnExactSchemeReachSpec)

/-- 'laws.FnExactMatchBest', WHERE WHAT IT READS IS OF BULK AT MOST 1048576: true; the input reads as it did. -/
def fnExactMatchBestUptoRow : OpenClaim := { program := "ythdmpiioecogpaa", sum := "4999620d1c17a1e53a69a27ef3f31246d2aa345bf266ecffb1eb72a332f44b15", func := "loop.example/atomicspectra/laws.FnExactMatchBest", spec := "fnExactMatchBest", unfollowed := true, recurses := true, apart := false, narrowed := true }
def FnExactMatchBestUptoSaid : Prop := fnExactMatchBestUptoRow.holds Try.pinned (OpenSpec.upto fnExactMatchBestSpec)

/-- 'laws.FnExactSchemeResting', WHERE WHAT IT READS IS OF BULK AT MOST 1048576: true; the input reads as it did. -/
def fnExactSchemeRestingUptoRow : OpenClaim := { program := "ythdmpiioecogpaa", sum := "4999620d1c17a1e53a69a27ef3f31246d2aa345bf266ecffb1eb72a332f44b15", func := "loop.example/atomicspectra/laws.FnExactSchemeResting", spec := "fnExactSchemeResting", unfollowed := true, recurses := true, apart := false, narrowed := true }
def FnExactSchemeRestingUptoSaid : Prop := fnExactSchemeRestingUptoRow.holds Try.pinned (OpenSpec.upto fnExactSchemeRestingSpec)

/-- 'laws.FnMatch', WHERE WHAT IT READS IS OF BULK AT MOST 1048576: true; the input reads as it did. -/
def fnMatchUptoRow : OpenClaim := { program := "ythdmpiioecogpaa", sum := "4999620d1c17a1e53a69a27ef3f31246d2aa345bf266ecffb1eb72a332f44b15", func := "loop.example/atomicspectra/laws.FnMatch", spec := "fnMatch", unfollowed := true, recurses := true, apart := false, narrowed := true }
def FnMatchUptoSaid : Prop := fnMatchUptoRow.holds Try.pinned (OpenSpec.upto fnMatchSpec)

/-- 'laws.FnMatchMore', WHERE WHAT IT READS IS OF BULK AT MOST 1048576: true; the input reads as it did. -/
def fnMatchMoreUptoRow : OpenClaim := { program := "ythdmpiioecogpaa", sum := "4999620d1c17a1e53a69a27ef3f31246d2aa345bf266ecffb1eb72a332f44b15", func := "loop.example/atomicspectra/laws.FnMatchMore", spec := "fnMatchMore", unfollowed := true, recurses := true, apart := false, narrowed := true }
def FnMatchMoreUptoSaid : Prop := fnMatchMoreUptoRow.holds Try.pinned (OpenSpec.upto fnMatchMoreSpec)

/-- 'laws.FnMatchBest', WHERE WHAT IT READS IS OF BULK AT MOST 1048576: true; the input reads as it did. -/
def fnMatchBestUptoRow : OpenClaim := { program := "ythdmpiioecogpaa", sum := "4999620d1c17a1e53a69a27ef3f31246d2aa345bf266ecffb1eb72a332f44b15", func := "loop.example/atomicspectra/laws.FnMatchBest", spec := "fnMatchBest", unfollowed := true, recurses := true, apart := false, narrowed := true }
def FnMatchBestUptoSaid : Prop := fnMatchBestUptoRow.holds Try.pinned (OpenSpec.upto fnMatchBestSpec)

end Rows
end Go.Proofs.Ythdmpiioecogpaa
