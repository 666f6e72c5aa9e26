/-
  An argument that is a slice of components: what its cells are.
-/
import Derived.Test.YtdejlinldocfjaaOpenRows
import Derived.Test.YtdejlinldocfjaaSplitDef
namespace Go.Proofs.Ytdejlinldocfjaa.Open
open Go.ChangeShapes Go.WideShapes Go.Deep Go.RowKit Go.Proofs.Ytdejlinldocfjaa.Row Go.Proofs.Ytdejlinldocfjaa.SplitPlain Go.Proofs.Ytdejlinldocfjaa.SplitDef
set_option linter.unusedVariables false

theorem rat {H : Type} {enc : TypeId × Value → H} {w : World} {base : Nat} {spare : Nat → Bool} {held : Bool} (fuel : Nat) (cs : List Value) (x : DataW H × List MemPlace) (h : DataW.trod enc Try.prog w base spare held fuel 46 cs = some x) : ∃ a b : Int, cs = [.int .i64 a, .int .i64 b] := by
  obtain ⟨hl, n, hf⟩ := field Try.underlying46 h
  obtain ⟨c0, c1, rfl⟩ : ∃ c0 c1, cs = [c0, c1] := by
    have hl2 : cs.length = 2 := hl.trans (by kernel_rfl)
    match cs, hl2 with
    | [a, b], _ => exact ⟨a, b, rfl⟩
  obtain ⟨y0, h0⟩ := hf 0 _ rfl
  obtain ⟨y1, h1⟩ := hf 1 _ rfl
  obtain ⟨a, ea, _, wa⟩ := DataW.trod_int Try.underlying3 h0
  obtain ⟨b, eb, _, wb⟩ := DataW.trod_int Try.underlying3 h1
  have k : Try.prog.cellsOf 3 = 1 := by kernel_rfl
  simp [k] at ea eb
  exact ⟨a, b, by rw [ea, eb]⟩
theorem split {H : Type} {enc : TypeId × Value → H} {w : World} {base : Nat} {spare : Nat → Bool} {held : Bool} (fuel : Nat) (cs : List Value) (x : DataW H × List MemPlace) (h : DataW.trod enc Try.prog w base spare held fuel 48 cs = some x) : ∃ y : Sp, cs = encSp y ∧ True := by
  obtain ⟨hl, n, hf⟩ := field Try.underlying48 h
  obtain ⟨c0, c1, c2, c3, c4, c5, rfl⟩ : ∃ c0 c1 c2 c3 c4 c5, cs = [c0, c1, c2, c3, c4, c5] := by
    have hl2 : cs.length = 6 := hl.trans (by kernel_rfl)
    match cs, hl2 with
    | [a, b, c, d, e, f], _ => exact ⟨a, b, c, d, e, f, rfl⟩
  obtain ⟨y0, h0⟩ := hf 0 _ rfl
  obtain ⟨y1, h1⟩ := hf 1 _ rfl
  obtain ⟨y2, h2⟩ := hf 2 _ rfl
  obtain ⟨y3, h3⟩ := hf 3 _ rfl
  obtain ⟨a, ea, _, wa⟩ := DataW.trod_int Try.underlying3 h0
  obtain ⟨b, eb, _, wb⟩ := DataW.trod_int Try.underlying3 h1
  obtain ⟨p, q, e2⟩ := rat _ _ _ h2
  obtain ⟨s, t, e3⟩ := rat _ _ _ h3
  have k : Try.prog.cellsOf 3 = 1 := by kernel_rfl
  have k2 : Try.prog.cellsOf 46 = 2 := by kernel_rfl
  simp [k, k2] at ea eb e2 e3
  exact ⟨⟨a, b, p, q, s, t⟩, by simp [encSp, ea, eb, e2, e3], trivial⟩
theorem splits {H : Type} {enc : TypeId × Value → H} {w : World} {base : Nat} {spare : Nat → Bool} {held : Bool} {a : Option Addr} {len cap : Nat} {d : DataW H} {p : List MemPlace} (h : DataW.Trod enc Try.prog w base spare held 22 (.slice a len cap) d p) :
    ∃ ns : List Sp, Sees w 6 (.slice a len cap) ns.length (ns.flatMap encSp) ∧ len = ns.length := by
  obtain ⟨ns, h1, h2, _⟩ := open_rows encSp 6 (fun _ => True) encSp_len (by omega) Try.underlying22 (by kernel_rfl) split h
  exact ⟨ns, h1, h2⟩

end Go.Proofs.Ytdejlinldocfjaa.Open
