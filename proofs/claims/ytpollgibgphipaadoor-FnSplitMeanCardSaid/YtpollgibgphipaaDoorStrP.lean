/-
  Strengths of lines: the plain functions.
-/
import Derived.Test.YtpollgibgphipaaDoorChoP
import Derived.Test.YtpollgibgphipaaDoorCoupled
namespace Go.Proofs.YtpollgibgphipaaDoor.StrP
open Go.Proofs.YtpollgibgphipaaDoor.RatP Go.Proofs.YtpollgibgphipaaDoor.Spin Go.Proofs.YtpollgibgphipaaDoor.ChoP Go.Proofs.YtpollgibgphipaaDoor.Coupled
set_option linter.unusedVariables false
set_option linter.unusedSimpArgs false
def small (j : Int) : Bool := decide (0 ≤ j ∧ j ≤ 6)
def triOk (a b c : Int) : Bool := small a && small b && small c && tri a b c
def sixOk (a b c d e f : Int) : Bool := triOk a b c && triOk a e f && triOk d b f && triOk d e c
def fact : Nat → Nat
  | 0 => 1
  | n + 1 => (n + 1) * fact n
def factI (n : Int) : Int := (fact n.toNat : Nat)
/-- the program's Delta -/
def deltaI (a b c : Int) : Int := if tri a b c = true ∧ (a + b + c) / 2 ≤ 18 then factI ((a + b + c) / 2 + 1) / (factI ((a + b - c) / 2) * factI ((a - b + c) / 2) * factI ((b + c - a) / 2)) else 0
/-- the reference's Delta -/
def deltaS (a b c : Int) : Int := if tri a b c = true ∧ (a + b + c) / 2 ≤ 18 then ((a + b + c) / 2 + 1) * choI ((a + b + c) / 2) ((a + b - c) / 2) * choI ((a + b + c) / 2 - (a + b - c) / 2) ((a - b + c) / 2) else 0
def maxI (a b : Int) : Int := if a ≤ b then b else a
def minI (a b : Int) : Int := if a ≤ b then a else b
def low6 (a b c d e f : Int) : Int := maxI (maxI (maxI (maxI 0 ((a + b + c) / 2)) ((a + e + f) / 2)) ((d + b + f) / 2)) ((d + e + c) / 2)
def high6 (a b c d e f : Int) : Int := minI (minI ((a + b + d + e) / 2) ((b + c + e + f) / 2)) ((a + c + d + f) / 2)
def term6 (a b c d e f t : Int) : Int := (if t % 2 = 1 then -1 else 1) * (factI (t + 1) / factI (t - (a + b + c) / 2) / factI (t - (a + e + f) / 2) / factI (t - (d + b + f) / 2) / factI (t - (d + e + c) / 2) / factI ((a + b + d + e) / 2 - t) / factI ((b + c + e + f) / 2 - t) / factI ((a + c + d + f) / 2 - t))
def sumFromTo (g : Int → Int) (lo : Int) : Nat → Int
  | 0 => 0
  | n + 1 => sumFromTo g lo n + g (lo + n)
/-- the program's sum -/
def sumI (a b c d e f : Int) : Int := sumFromTo (term6 a b c d e f) (low6 a b c d e f) (high6 a b c d e f - low6 a b c d e f + 1).toNat
/-- the reference's number of ways -/
def left (g : List Int) : Int := total g
def waysFrom (l : Int) : List Int → Int
  | [] => 1
  | x :: xs => choI l x * waysFrom (l - x) xs
def ways (g : List Int) : Int := if g.any (fun x => decide (x < 0)) then 0 else waysFrom (total g) g
def groups (a b c d e f t : Int) : List Int := [t - (a + b + c) / 2, t - (a + e + f) / 2, t - (d + b + f) / 2, t - (d + e + c) / 2, (a + b + d + e) / 2 - t, (b + c + e + f) / 2 - t, (a + c + d + f) / 2 - t]
def termS (a b c d e f t : Int) : Int := (if t % 2 = 1 then -1 else 1) * ((t + 1) * ways (groups a b c d e f t))
def sumS (a b c d e f : Int) : Int := sumFromTo (termS a b c d e f) 0 13
def den6 (a b c d e f : Int) : Int := deltaI a b c * deltaI a e f * deltaI d b f * deltaI d e c
def denS (a b c d e f : Int) : Int := deltaS a b c * deltaS a e f * deltaS d b f * deltaS d e c
/-- the symbols of lines -/
def every6 (p : Int → Int → Int → Int → Int → Bool) : Bool := ([0, 2, 4, 6] : List Int).all fun a => js.all fun b => js.all fun c => js.all fun d => ([0, 2, 4, 6] : List Int).all fun e => !sixOk a b c d e 2 || p a b c d e
theorem six_eq : every6 (fun a b c d e => decide (sumI a b c d e 2 = sumS a b c d e 2 ∧ den6 a b c d e 2 = denS a b c d e 2 ∧ (-1000000 ≤ sumI a b c d e 2 ∧ sumI a b c d e 2 ≤ 1000000) ∧ 1 ≤ den6 a b c d e 2 ∧ den6 a b c d e 2 ≤ 4000000000000000000)) = true := by decide +kernel
def smallL (s l j : Int) : Bool := levelOk s l j && decide (2 * l ≤ 6 ∧ j ≤ 6 ∧ s ≤ 6)
def sixR (a b c d e : Int) : Ro := mkR (sumI a b c d e 2 * sumI a b c d e 2) (den6 a b c d e 2)
def lineS (s l j s' l' j' : Int) : Ro :=
  if smallL s l j = true ∧ smallL s' l' j' = true ∧ s = s' then
    if sixOk (2 * l) j s j' (2 * l') 2 = true then
      if (sixR (2 * l) j s j' (2 * l')).ok = true then mulR (sixR (2 * l) j s j' (2 * l')).n (sixR (2 * l) j s j' (2 * l')).d ((j + 1) * (j' + 1)) 1 else bad
    else ⟨0, 1, true⟩
  else bad
def strSum (s l j s' l' : Int) : Ro := if termOk s' l' = true then sumFrom ⟨0, 1, true⟩ ((levelJs s' l').map fun j' => lineS s l j s' l' j') else bad
def strTotal (s l s' l' : Int) : Ro := if termOk s l = true ∧ termOk s' l' = true then sumFrom ⟨0, 1, true⟩ ((levelJs s l).map fun j => strSum s l j s' l') else bad
end Go.Proofs.YtpollgibgphipaaDoor.StrP
