/-
  Binomial numbers and coupling coefficients: the plain functions.
-/
import Derived.Test.YtpollgibgphipaaDoorRatP
import Derived.Test.YtpollgibgphipaaDoorSpin
namespace Go.Proofs.YtpollgibgphipaaDoor.ChoP
open Go.Proofs.YtpollgibgphipaaDoor.RatP Go.Proofs.YtpollgibgphipaaDoor.Spin
set_option linter.unusedVariables false
set_option linter.unusedSimpArgs false
def hasM (j m : Int) : Bool := decide (-j ≤ m ∧ m ≤ j ∧ (m - j) % 2 = 0)
/-- binomial numbers -/
def bin : Nat → Nat → Nat
  | _, 0 => 1
  | 0, _ + 1 => 0
  | n + 1, k + 1 => bin n k + bin n (k + 1)
def choI (n k : Int) : Int := if n < 0 ∨ 40 < n then -1 else if k < 0 ∨ n < k then 0 else (bin n.toNat k.toNat : Nat)
def cterm (a b c m n : Int) (k : Nat) : Int :=
  (if k % 2 = 1 then -1 else 1) * choI ((a + b - c) / 2) k * choI ((a - b + c) / 2) ((a - m) / 2 - k) * choI ((b - a + c) / 2) ((b + n) / 2 - k)
def csumN (a b c m n : Int) : Nat → Int
  | 0 => 0
  | k + 1 => csumN a b c m n k + cterm a b c m n k
def csum (a b c m n : Int) : Int := csumN a b c m n ((a + b - c) / 2 + 1).toNat
def cnum (a b c : Int) : Int := choI a ((a + b - c) / 2) * choI b ((a + b - c) / 2)
def cden (a b c m n : Int) : Int := choI ((a + b + c) / 2 + 1) ((a + b - c) / 2) * choI a ((a - m) / 2) * choI b ((b - n) / 2) * choI c ((c - m - n) / 2)
def cq (a b c m n : Int) : Ro := mkR (csum a b c m n * csum a b c m n * cnum a b c) (cden a b c m n)
def js : List Int := [0, 1, 2, 3, 4, 5, 6]
theorem mem_js {x : Int} (h : 0 ≤ x ∧ x ≤ 6) : x ∈ js := by
  obtain rfl | rfl | rfl | rfl | rfl | rfl | rfl : x = 0 ∨ x = 1 ∨ x = 2 ∨ x = 3 ∨ x = 4 ∨ x = 5 ∨ x = 6 := by omega
  all_goals decide
theorem mul_bds {a b A B : Int} (h1 : -A ≤ a) (h2 : a ≤ A) (h3 : -B ≤ b) (h4 : b ≤ B) (_hB : 0 ≤ B) : -(A * B) ≤ a * b ∧ a * b ≤ A * B := by
  have e1 : (a * b).natAbs ≤ (A * B).natAbs := by
    rw [Int.natAbs_mul, Int.natAbs_mul]
    exact Nat.mul_le_mul (by omega) (by omega)
  have e2 : 0 ≤ A * B := Int.mul_nonneg (by omega) (by omega)
  omega
end Go.Proofs.YtpollgibgphipaaDoor.ChoP
