/-
  No cell of these rows narrows 'for every input' (looked for: loops, veiled, ifaces, maps, wideKeys, modest, calm, conditions, laid).
  DERIVED. THE GIVEN ROWS OF THIS SEAT. 6 by the template 'for every input the law returns true; each argument reads behind the call as it read before'; 0 by the template 'total and deterministic' (their statements: YtiedfdnolkdooaaTotals.lean).
  GIVEN WITH THE SEED: the statements are not yours to turn. If you find one false, say at which input.
  Laid BY PROGRAM, IN A SANDBOX (cutbox-rows.mjs): the forced cells as the released guide's own fill.sh prints them over the translation 094eebfed81dfdad… (all of the seat's roots in one cut). By AI agents, Wed Nov 11 2026. No macro, syntax, notation, axiom, sorry.
-/
import Derived.Test.YtiedfdnolkdooaaChecked
import GoSem.Claim
import GoSem.ClaimJoined
import GoSem.ClaimMapViews
import Derived.JoinedTies
import Derived.KernelRfl
namespace Go.Proofs.Ytiedfdnolkdooaa
/- THE CELL 'sum', in the pinned program and in every row, IS THE sha256 OF THE DUMP (.gsa) THAT YtiedfdnolkdooaaProg.lean LOADS. Nothing in Lean hashes anything: it is a label: what it is worth is what the hold of that sum in a sandbox is worth. -/
noncomputable def Try.pinned : Pinned := { name := "ytiedfdnolkdooaa", sum := "094eebfed81dfdad55ec3764ba8dca27c2f44719288a8cb33983bfec946941cc", checked := Try.checked }
namespace Rows
def none {H : Type} : Left H := { results := [], args := [] }

/-- 'laws.FnExactNumberOf': WHATEVER THE INPUT: true; the input reads as it did. -/
def fnExactNumberOfSpec : ChangeSpec := { name := "fnExactNumberOf", fn := fun _ => fun
  | [d] => { results := [.lit (.bool true)], args := [d] }
  | _ => none }
def fnExactNumberOfRow : OpenClaim := { program := "ytiedfdnolkdooaa", sum := "094eebfed81dfdad55ec3764ba8dca27c2f44719288a8cb33983bfec946941cc", func := "loop.example/atomicspectra/laws.FnExactNumberOf", spec := "fnExactNumberOf", apart := false }
def FnExactNumberOfSaid : Prop := fnExactNumberOfRow.holds Try.pinned (OpenSpec.ofChange fnExactNumberOfSpec)

/-- ITS FALSE NEIGHBOUR: 'it returns false'. Refute it at one input. -/
def fnExactNumberOfWrong : ChangeSpec := { name := "fnExactNumberOf", fn := fun _ => fun
  | [d] => { results := [.lit (.bool false)], args := [d] }
  | _ => none }
def FnExactNumberOfWrongFalsely : Prop := fnExactNumberOfRow.holds Try.pinned (OpenSpec.ofChange fnExactNumberOfWrong)

/-- 'laws.FnExactWaveOf': WHATEVER THE INPUT: true; the input reads as it did. -/
def fnExactWaveOfSpec : ChangeSpec := { name := "fnExactWaveOf", fn := fun _ => fun
  | [d] => { results := [.lit (.bool true)], args := [d] }
  | _ => none }
def fnExactWaveOfRow : OpenClaim := { program := "ytiedfdnolkdooaa", sum := "094eebfed81dfdad55ec3764ba8dca27c2f44719288a8cb33983bfec946941cc", func := "loop.example/atomicspectra/laws.FnExactWaveOf", spec := "fnExactWaveOf", apart := false }
def FnExactWaveOfSaid : Prop := fnExactWaveOfRow.holds Try.pinned (OpenSpec.ofChange fnExactWaveOfSpec)

/-- ITS FALSE NEIGHBOUR: 'it returns false'. Refute it at one input. -/
def fnExactWaveOfWrong : ChangeSpec := { name := "fnExactWaveOf", fn := fun _ => fun
  | [d] => { results := [.lit (.bool false)], args := [d] }
  | _ => none }
def FnExactWaveOfWrongFalsely : Prop := fnExactWaveOfRow.holds Try.pinned (OpenSpec.ofChange fnExactWaveOfWrong)

/-- 'laws.FnNumber': WHATEVER THE INPUT: true; the input reads as it did. -/
def fnNumberSpec : ChangeSpec := { name := "fnNumber", fn := fun _ => fun
  | [d] => { results := [.lit (.bool true)], args := [d] }
  | _ => none }
def fnNumberRow : OpenClaim := { program := "ytiedfdnolkdooaa", sum := "094eebfed81dfdad55ec3764ba8dca27c2f44719288a8cb33983bfec946941cc", func := "loop.example/atomicspectra/laws.FnNumber", spec := "fnNumber", apart := false }
def FnNumberSaid : Prop := fnNumberRow.holds Try.pinned (OpenSpec.ofChange fnNumberSpec)

/-- ITS FALSE NEIGHBOUR: 'it returns false'. Refute it at one input. -/
def fnNumberWrong : ChangeSpec := { name := "fnNumber", fn := fun _ => fun
  | [d] => { results := [.lit (.bool false)], args := [d] }
  | _ => none }
def FnNumberWrongFalsely : Prop := fnNumberRow.holds Try.pinned (OpenSpec.ofChange fnNumberWrong)

/-- 'laws.FnWaveFalls': WHATEVER THE INPUT: true; the input reads as it did. -/
def fnWaveFallsSpec : ChangeSpec := { name := "fnWaveFalls", fn := fun _ => fun
  | [d] => { results := [.lit (.bool true)], args := [d] }
  | _ => none }
def fnWaveFallsRow : OpenClaim := { program := "ytiedfdnolkdooaa", sum := "094eebfed81dfdad55ec3764ba8dca27c2f44719288a8cb33983bfec946941cc", func := "loop.example/atomicspectra/laws.FnWaveFalls", spec := "fnWaveFalls", apart := false }
def FnWaveFallsSaid : Prop := fnWaveFallsRow.holds Try.pinned (OpenSpec.ofChange fnWaveFallsSpec)

/-- ITS FALSE NEIGHBOUR: 'it returns false'. Refute it at one input. -/
def fnWaveFallsWrong : ChangeSpec := { name := "fnWaveFalls", fn := fun _ => fun
  | [d] => { results := [.lit (.bool false)], args := [d] }
  | _ => none }
def FnWaveFallsWrongFalsely : Prop := fnWaveFallsRow.holds Try.pinned (OpenSpec.ofChange fnWaveFallsWrong)

/-- 'laws.FnWaveNear': WHATEVER THE INPUT: true; the input reads as it did. -/
def fnWaveNearSpec : ChangeSpec := { name := "fnWaveNear", fn := fun _ => fun
  | [d] => { results := [.lit (.bool true)], args := [d] }
  | _ => none }
def fnWaveNearRow : OpenClaim := { program := "ytiedfdnolkdooaa", sum := "094eebfed81dfdad55ec3764ba8dca27c2f44719288a8cb33983bfec946941cc", func := "loop.example/atomicspectra/laws.FnWaveNear", spec := "fnWaveNear", apart := false }
def FnWaveNearSaid : Prop := fnWaveNearRow.holds Try.pinned (OpenSpec.ofChange fnWaveNearSpec)

/-- ITS FALSE NEIGHBOUR: 'it returns false'. Refute it at one input. -/
def fnWaveNearWrong : ChangeSpec := { name := "fnWaveNear", fn := fun _ => fun
  | [d] => { results := [.lit (.bool false)], args := [d] }
  | _ => none }
def FnWaveNearWrongFalsely : Prop := fnWaveNearRow.holds Try.pinned (OpenSpec.ofChange fnWaveNearWrong)

/-- 'laws.FnWave': WHATEVER THE INPUT: true; the input reads as it did. -/
def fnWaveSpec : ChangeSpec := { name := "fnWave", fn := fun _ => fun
  | [d] => { results := [.lit (.bool true)], args := [d] }
  | _ => none }
def fnWaveRow : OpenClaim := { program := "ytiedfdnolkdooaa", sum := "094eebfed81dfdad55ec3764ba8dca27c2f44719288a8cb33983bfec946941cc", func := "loop.example/atomicspectra/laws.FnWave", spec := "fnWave", apart := false }
def FnWaveSaid : Prop := fnWaveRow.holds Try.pinned (OpenSpec.ofChange fnWaveSpec)

/-- ITS FALSE NEIGHBOUR: 'it returns false'. Refute it at one input. -/
def fnWaveWrong : ChangeSpec := { name := "fnWave", fn := fun _ => fun
  | [d] => { results := [.lit (.bool false)], args := [d] }
  | _ => none }
def FnWaveWrongFalsely : Prop := fnWaveRow.holds Try.pinned (OpenSpec.ofChange fnWaveWrong)

/- THE SECOND FORM. 'bulk': how many values and letters a reading holds, each counted each time it is reached (what is shared counts as often as it is met; a slice's spare places count too). A statement '..UptoSaid' is the law's where the arguments, and the package variables that the reading takes, are together of bulk at most 1048576: NARROWER than '..Said'. Prove '..Said' where nothing that the law and all that it calls make is longer than what came in: it says more and counts as full. Else prove '..UptoSaid'. A law counts once. -/
mutual
def uptoBulk {H : Type} : DataW H → Nat
  | .lit (.string bytes) => bytes.length + 1
  | .lit _ => 1
  | .nil => 1
  | .ptr d => uptoBulk d + 1
  | .slice elems spare => uptoBulkAll elems + uptoBulkAll spare + 1
  | .agg parts => uptoBulkAll parts + 1
  | .iface _ d => uptoBulk d + 1
  | .map entries => uptoBulkEntries entries + 1
  | .held _ => 1
def uptoBulkAll {H : Type} : List (DataW H) → Nat
  | [] => 0
  | d :: r => uptoBulk d + uptoBulkAll r
def uptoBulkEntries {H : Type} : List (Lit × DataW H) → Nat
  | [] => 0
  | x :: r => uptoBulkEntry x + uptoBulkEntries r
def uptoBulkEntry {H : Type} : Lit × DataW H → Nat
  | (.string bytes, d) => bytes.length + uptoBulk d + 1
  | (_, d) => uptoBulk d + 1
 end
def uptoSmall : (H : Type) → List (DataW H) → Bool := fun _ ds => decide (uptoBulkAll ds ≤ 1048576)
def OpenSpec.upto (s : _root_.Go.ChangeSpec) : _root_.Go.OpenSpec := { _root_.Go.OpenSpec.ofChange s with cond := some uptoSmall }

/-- 'laws.FnExactNumberOf', WHERE WHAT IT READS IS OF BULK AT MOST 1048576: true; the input reads as it did. -/
def fnExactNumberOfUptoRow : OpenClaim := { program := "ytiedfdnolkdooaa", sum := "094eebfed81dfdad55ec3764ba8dca27c2f44719288a8cb33983bfec946941cc", func := "loop.example/atomicspectra/laws.FnExactNumberOf", spec := "fnExactNumberOf", apart := false, narrowed := true }
def FnExactNumberOfUptoSaid : Prop := fnExactNumberOfUptoRow.holds Try.pinned (OpenSpec.upto fnExactNumberOfSpec)

/-- 'laws.FnExactWaveOf', WHERE WHAT IT READS IS OF BULK AT MOST 1048576: true; the input reads as it did. -/
def fnExactWaveOfUptoRow : OpenClaim := { program := "ytiedfdnolkdooaa", sum := "094eebfed81dfdad55ec3764ba8dca27c2f44719288a8cb33983bfec946941cc", func := "loop.example/atomicspectra/laws.FnExactWaveOf", spec := "fnExactWaveOf", apart := false, narrowed := true }
def FnExactWaveOfUptoSaid : Prop := fnExactWaveOfUptoRow.holds Try.pinned (OpenSpec.upto fnExactWaveOfSpec)

/-- 'laws.FnNumber', WHERE WHAT IT READS IS OF BULK AT MOST 1048576: true; the input reads as it did. -/
def fnNumberUptoRow : OpenClaim := { program := "ytiedfdnolkdooaa", sum := "094eebfed81dfdad55ec3764ba8dca27c2f44719288a8cb33983bfec946941cc", func := "loop.example/atomicspectra/laws.FnNumber", spec := "fnNumber", apart := false, narrowed := true }
def FnNumberUptoSaid : Prop := fnNumberUptoRow.holds Try.pinned (OpenSpec.upto fnNumberSpec)

/-- 'laws.FnWaveFalls', WHERE WHAT IT READS IS OF BULK AT MOST 1048576: true; the input reads as it did. -/
def fnWaveFallsUptoRow : OpenClaim := { program := "ytiedfdnolkdooaa", sum := "094eebfed81dfdad55ec3764ba8dca27c2f44719288a8cb33983bfec946941cc", func := "loop.example/atomicspectra/laws.FnWaveFalls", spec := "fnWaveFalls", apart := false, narrowed := true }
def FnWaveFallsUptoSaid : Prop := fnWaveFallsUptoRow.holds Try.pinned (OpenSpec.upto fnWaveFallsSpec)

/-- 'laws.FnWaveNear', WHERE WHAT IT READS IS OF BULK AT MOST 1048576: true; the input reads as it did. -/
def fnWaveNearUptoRow : OpenClaim := { program := "ytiedfdnolkdooaa", sum := "094eebfed81dfdad55ec3764ba8dca27c2f44719288a8cb33983bfec946941cc", func := "loop.example/atomicspectra/laws.FnWaveNear", spec := "fnWaveNear", apart := false, narrowed := true }
def FnWaveNearUptoSaid : Prop := fnWaveNearUptoRow.holds Try.pinned (OpenSpec.upto fnWaveNearSpec)

/-- 'laws.FnWave', WHERE WHAT IT READS IS OF BULK AT MOST 1048576: true; the input reads as it did. -/
def fnWaveUptoRow : OpenClaim := { program := "ytiedfdnolkdooaa", sum := "094eebfed81dfdad55ec3764ba8dca27c2f44719288a8cb33983bfec946941cc", func := "loop.example/atomicspectra/laws.FnWave", spec := "fnWave", apart := false, narrowed := true }
def FnWaveUptoSaid : Prop := fnWaveUptoRow.holds Try.pinned (OpenSpec.upto fnWaveSpec)

end Rows
end Go.Proofs.Ytiedfdnolkdooaa
