/-
  An argument that is a slice of nodes: what its cells are.
-/
import Derived.Test.YtgkgdnocleajcaaOpenRows
import Derived.Test.YtgkgdnocleajcaaNode
namespace Go.Proofs.Ytgkgdnocleajcaa.Open
open Go.ChangeShapes Go.WideShapes Go.Deep Go.RowKit Go.Proofs.Ytgkgdnocleajcaa.Row Go.Proofs.Ytgkgdnocleajcaa.Plain Go.Proofs.Ytgkgdnocleajcaa.Node
set_option linter.unusedVariables false

theorem node {H : Type} {enc : TypeId × Value → H} {w : World} {base : Nat} {spare : Nat → Bool} {held : Bool} (fuel : Nat) (cs : List Value) (x : DataW H × List MemPlace) (h : DataW.trod enc Try.prog w base spare held fuel 52 cs = some x) : ∃ y : Nd, cs = encN y ∧ True := by
  obtain ⟨hl, n, hf⟩ := field Try.underlying52 h
  obtain ⟨c0, c1, c2, rfl⟩ := three (hl.trans (by kernel_rfl))
  obtain ⟨y0, h0⟩ := hf 0 _ rfl
  obtain ⟨y1, h1⟩ := hf 1 _ rfl
  obtain ⟨y2, h2⟩ := hf 2 _ rfl
  obtain ⟨a, ea, _, wa⟩ := DataW.trod_int Try.underlying3 h0
  obtain ⟨b, eb, _, wb⟩ := DataW.trod_int Try.underlying3 h1
  obtain ⟨o, eo, _⟩ := DataW.trod_bool Try.underlying4 h2
  have k : Try.prog.cellsOf 3 = 1 := by kernel_rfl
  have k2 : Try.prog.cellsOf 4 = 1 := by kernel_rfl
  simp [k] at ea eb
  simp [k2] at eo
  exact ⟨⟨a, b, o⟩, by rw [ea, eb, eo]; rfl, trivial⟩
theorem nodes {H : Type} {enc : TypeId × Value → H} {w : World} {base : Nat} {spare : Nat → Bool} {held : Bool} {a : Option Addr} {len cap : Nat} {d : DataW H} {p : List MemPlace} (h : DataW.Trod enc Try.prog w base spare held 22 (.slice a len cap) d p) :
    ∃ ns : List Nd, Sees w 3 (.slice a len cap) ns.length (ns.flatMap encN) ∧ len = ns.length := by
  obtain ⟨ns, h1, h2, _⟩ := open_rows encN 3 (fun _ => True) encN_len (by omega) Try.underlying22 (by kernel_rfl) node h
  exact ⟨ns, h1, h2⟩

end Go.Proofs.Ytgkgdnocleajcaa.Open
