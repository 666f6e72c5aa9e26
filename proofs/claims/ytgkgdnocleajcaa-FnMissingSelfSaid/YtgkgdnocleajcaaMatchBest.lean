/-
  Contracts of MatchBest, the program's and the reference's.
-/
import Derived.Test.YtgkgdnocleajcaaNearest
import Derived.Test.YtgkgdnocleajcaaLinesP
import Derived.Test.YtgkgdnocleajcaaLinesS
namespace Go.Proofs.Ytgkgdnocleajcaa.MatchBest
open Go.RowKit Go.Proofs.Ytgkgdnocleajcaa.Spin Go.Proofs.Ytgkgdnocleajcaa.Row Go.Proofs.Ytgkgdnocleajcaa.Plain Go.Proofs.Ytgkgdnocleajcaa.Later Go.Proofs.Ytgkgdnocleajcaa.Node Go.Proofs.Ytgkgdnocleajcaa.Line Go.Proofs.Ytgkgdnocleajcaa.LinesFn Go.Proofs.Ytgkgdnocleajcaa.LinesS Go.Proofs.Ytgkgdnocleajcaa.LinesP Go.Proofs.Ytgkgdnocleajcaa.Nearest
set_option linter.unusedVariables false
set_option linter.unusedSimpArgs false

def bestOf (ns : List Nd) (x t : Int) : Int := if schemeOk ns = true ∧ seenOk x t = true then nearest (linesOf ns) x t else -1
theorem bestOf_yes {ns : List Nd} {x t : Int} (h1 : schemeOk ns = true) (h2 : seenOk x t = true) : bestOf ns x t = nearest (linesOf ns) x t := by simp [bestOf, h1, h2]
theorem bestOf_no1 {ns : List Nd} {x t : Int} (h1 : schemeOk ns = false) : bestOf ns x t = -1 := by simp [bestOf, h1]
theorem bestOf_no2 {ns : List Nd} {x t : Int} (h2 : seenOk x t = false) : bestOf ns x t = -1 := by simp [bestOf, h2]
theorem line_bd (ns : List Nd) : ∀ i, i < (linesOf ns).length → 0 ≤ (lth (linesOf ns) i).n ∧ (lth (linesOf ns) i).n ≤ 200000 := by
  intro i hi
  have := line_parts (lth_mem hi)
  omega

theorem bestTo_far {l : List Ln} {x t : Int} {k : Nat} (h : ¬ off l x k ≤ t) : bestTo l x t (k + 1) = bestTo l x t k := by rw [bestTo, if_neg (fun g => h g.1)]
theorem bestTo_first {l : List Ln} {x t : Int} {k : Nat} (h : off l x k ≤ t) (hb : bestTo l x t k < 0) : bestTo l x t (k + 1) = k := by rw [bestTo, if_pos ⟨h, .inl hb⟩]
theorem bestTo_less {l : List Ln} {x t : Int} {k m : Nat} (h : off l x k ≤ t) (hb : bestTo l x t k = m) (hl : off l x k < off l x m) : bestTo l x t (k + 1) = k := by rw [bestTo, hb, Int.toNat_natCast, if_pos ⟨h, .inr hl⟩]
theorem bestTo_keep {l : List Ln} {x t : Int} {k m : Nat} (hb : bestTo l x t k = m) (hl : ¬ off l x k < off l x m) : bestTo l x t (k + 1) = m := by rw [bestTo, hb, Int.toNat_natCast, if_neg (by rintro ⟨_, h | h⟩; · omega
                                                                                                                                                                                                  · exact hl h)]

theorem valid_is {ns : List Nd} {r : Bool} {v : Value} {w : World} (h : schemeOk ns = r) (hs : Sees w 3 v ns.length (ns.flatMap encN)) : Calls Try.prog 18 #[v] w (Gives (.bool r) w) := h ▸ iSchemeValid ns v w hs
theorem svalid_is {ns : List Nd} {r : Bool} {v : Value} {w : World} (h : schemeOk ns = r) (hs : Sees w 3 v ns.length (ns.flatMap encN)) : Calls Try.prog 16 #[v] w (Gives (.bool r) w) := h ▸ sSchemeValid ns v w hs




end Go.Proofs.Ytgkgdnocleajcaa.MatchBest
