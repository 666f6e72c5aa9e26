/-
  Strengths of lines: the laws, over all that is drawn.
-/
import Derived.Test.YthinhhfegflmmaaStrP
import Derived.Test.YthinhhfegflmmaaAllowed
namespace Go.Proofs.Ythinhhfegflmmaa.StrP
open Go.Proofs.Ythinhhfegflmmaa.RatP Go.Proofs.Ythinhhfegflmmaa.Spin Go.Proofs.Ythinhhfegflmmaa.ChoP Go.Proofs.Ythinhhfegflmmaa.Coupled Go.Proofs.Ythinhhfegflmmaa.Allowed
set_option linter.unusedVariables false
set_option linter.unusedSimpArgs false
def ss : List Int := [0, 1, 2, 3]
def ls : List Int := [0, 1, 2]
def ls4 : List Int := [0, 1, 2, 3, 4]
/-- all drawn levels x and terms of the same spin -/
def lvls (p : Int → Int → Int → Int → Bool) : Bool := ss.all fun s => ls.all fun l => js.all fun j => !smallL s l j || ls4.all fun k => p s l j k
def sumLaw (s l j k : Int) : Bool := !(strSum s l j s k).ok || (if l - k < -1 ∨ 1 < l - k ∨ l + k = 0 then decide (strSum s l j s k = ⟨0, 1, true⟩) else decide ((mkR (j + 1) (2 * l + 1)).ok = true ∧ mkR (j + 1) (2 * l + 1) = strSum s l j s k))
theorem sum_law : lvls sumLaw = true := by decide +kernel
def ratioLaw (s l j k : Int) : Bool := !(strSum s l j s k).ok || (levelJs s l).all fun i => !(strSum s l i s k).ok || decide ((mulR (strSum s l j s k).n (strSum s l j s k).d (i + 1) 1).ok = true ∧ mulR (strSum s l j s k).n (strSum s l j s k).d (i + 1) 1 = mulR (strSum s l i s k).n (strSum s l i s k).d (j + 1) 1)
theorem ratio_law : lvls ratioLaw = true := by decide +kernel
def totalLaw (s l k : Int) : Bool := !(strTotal s l s k).ok || (strTotal s k s l).ok && decide (strTotal s k s l = strTotal s l s k) && (if l - k < -1 ∨ 1 < l - k ∨ l + k = 0 then decide (strTotal s l s k = ⟨0, 1, true⟩) else decide (strTotal s l s k = ⟨s + 1, 1, true⟩))
theorem total_law : (ss.all fun s => ls.all fun l => ls4.all fun k => totalLaw s l k) = true := by decide +kernel
def allowedLaw (s l j k : Int) : Bool := js.all fun i => !smallL s k i || !(nearB l k 1 && nearB j i 2) || !(lineS s l j s k i).ok || decide (0 < (lineS s l j s k i).n)
theorem allowed_law : lvls allowedLaw = true := by decide +kernel
def linesLaw (s l k : Int) : Bool := !decide (2 * l + s ≤ 6 ∧ 2 * k + s ≤ 6) || (levelJs s l).all fun j => (levelJs s k).all fun i => (lineS s l j s k i).ok && (decide (0 < (lineS s l j s k i).n) == (nearB l k 1 && nearB j i 2))
theorem lines_law : (ss.all fun s => ls.all fun l => ls.all fun k => linesLaw s l k) = true := by decide +kernel
end Go.Proofs.Ythinhhfegflmmaa.StrP
