/-
  The contracts of NumberOf and WaveOf, the program's and the reference's: both return the same plain function, and leave the world alone.
-/
import Derived.Test.YtiedfdnolkdooaaChecked
import Derived.WalkKit
import Derived.ProofKit
import Derived.Lib.Hide
namespace Go.Proofs.Ytiedfdnolkdooaa.Waves
open Go.RowKit

def near (a : Int) : Int := (2 * 100000000000 + a) / (2 * a)
def numberOf (a : Int) : Int := if 500000 ≤ a ∧ a ≤ 100000000000 then near a else 0
def waveOf (a : Int) : Int := if 1 ≤ a ∧ a ≤ 200000 then near a else 0

theorem near_spec (a : Int) (h : 1 ≤ a) : 2 * (near a * a) ≤ 2 * 100000000000 + a ∧ 2 * 100000000000 + a < 2 * (near a * a) + 2 * a := by
  have h1 := Int.mul_ediv_self_le (x := 2 * 100000000000 + a) (k := 2 * a) (by omega)
  have h2 := Int.lt_mul_ediv_self_add (x := 2 * 100000000000 + a) (k := 2 * a) (by omega)
  have e : 2 * a * ((2 * 100000000000 + a) / (2 * a)) = 2 * (near a * a) := by
    show _ = 2 * ((2 * 100000000000 + a) / (2 * a) * a)
    generalize (2 * 100000000000 + a) / (2 * a) = q
    rw [Int.mul_assoc, Int.mul_comm a q]
  rw [e] at h1 h2
  exact ⟨h1, h2⟩
theorem near_ge (a : Int) (h : 1 ≤ a) (h2 : a ≤ 200000) : 500000 ≤ near a := Int.le_ediv_of_mul_le (by omega) (by omega)
theorem near_le (a : Int) (h : 1 ≤ a) : near a ≤ 100000000000 := by
  have : near a < 100000000001 := Int.ediv_lt_of_lt_mul (by omega) (by omega)
  omega
theorem near_pos (a : Int) (h : 1 ≤ a) (h2 : a ≤ 100000000000) : 1 ≤ near a := Int.le_ediv_of_mul_le (by omega) (by omega)
theorem near_small (a : Int) (h : 500000 ≤ a) : near a ≤ 200000 := by
  have : near a < 200001 := Int.ediv_lt_of_lt_mul (by omega) (by omega)
  omega
theorem near_next (a : Int) (h : 1 ≤ a) : near (a + 1) ≤ near a := by
  have h1 := (near_spec a h).2
  have h2 := (near_spec (a + 1) (by omega)).1
  have h0 : 0 ≤ near a := Int.ediv_nonneg (by omega) (by omega)
  refine Int.not_lt.1 fun hn => ?_
  have h3 : (near a + 1) * (a + 1) ≤ near (a + 1) * (a + 1) := Int.mul_le_mul_of_nonneg_right (by omega) (by omega)
  have h4 : (near a + 1) * (a + 1) = near a * a + near a + a + 1 := by rw [Int.add_mul, Int.mul_add]; omega
  omega
theorem near_falls (a : Int) (h : 1 ≤ a) (h5 : a ≤ 200000) : near (a + 1) < near a := by
  have h1 := (near_spec a h).2
  have h2 := (near_spec (a + 1) (by omega)).1
  have h0 := near_ge a h h5
  refine Int.not_le.1 fun hn => ?_
  have h3 : near a * (a + 1) ≤ near (a + 1) * (a + 1) := Int.mul_le_mul_of_nonneg_right hn (by omega)
  have h4 : near a * (a + 1) = near a * a + near a := by rw [Int.mul_add]; omega
  omega
theorem near_near (a : Int) (h : 1 ≤ a) (h5 : a ≤ 200000) : near (near a) = a := by
  have h1 := near_spec a h
  have h2 := near_ge a h h5
  have e : near (near a) = (2 * 100000000000 + near a) / (2 * near a) := rfl
  have ea : a * (2 * near a) = 2 * (near a * a) := by rw [Int.mul_comm a, Int.mul_assoc]
  have eb : (a + 1) * (2 * near a) = 2 * (near a * a) + 2 * near a := by rw [Int.add_mul, ea]; omega
  have g1 : a ≤ near (near a) := by rw [e]; exact Int.le_ediv_of_mul_le (by omega) (by omega)
  have g2 : near (near a) < a + 1 := by rw [e]; exact Int.ediv_lt_of_lt_mul (by omega) (by omega)
  omega

theorem ret_int {k : IntKind} {a b : Int} (h : a = b) : Ending.returned (.int k a) = .returned (.int k b) := by rw [h]

theorem l32Divide (a : Int) (w : World) (h0 : 1 ≤ a) (h1 : a ≤ 100000000000) :
    Calls Try.prog 16 #[.int .i64 100000000000, .int .i64 a] w fun e w' => e = .returned (.int .i64 (near a)) ∧ w = w' := by
  go_enter Try.func16, Try.ntmps16
  go_wp2
  go_ret
  exact ⟨rfl, rfl⟩

theorem nearest (a : Int) (w : World) (h0 : 1 ≤ a) (h1 : a ≤ 100000000000) :
    Calls Try.prog 17 #[.int .i64 100000000000, .int .i64 a] w fun e w' => e = .returned (.int .i64 (near a)) ∧ w = w' := by
  go_enter Try.func17, Try.ntmps17
  go_wp2
  go_ret
  exact ⟨rfl, rfl⟩

theorem specNumberOf (a : Int) (w : World) :
    Calls Try.prog 9 #[.int .i64 a] w fun e w' => e = .returned (.int .i64 (numberOf a)) ∧ w = w' := by
  by_cases h1 : 500000 ≤ a
  · by_cases h2 : a ≤ 100000000000
    · have hr : numberOf a = near a := if_pos ⟨h1, h2⟩
      have HR := Lib.hid hr; clear hr
      go_enter Try.func9, Try.ntmps9
      go_wp2_with (first | (go_at_call 16; refine (l32Divide _ _ (by omega) (by omega)).mono ?_; rintro e w' ⟨rfl, rfl⟩) | go_in)
      go_ret
      exact ⟨ret_int HR.out.symm, rfl⟩
    · have hr : numberOf a = 0 := if_neg (by omega)
      have HR := Lib.hid hr; clear hr
      go_enter Try.func9, Try.ntmps9
      go_wp2
      go_ret
      exact ⟨ret_int HR.out.symm, rfl⟩
  · have hr : numberOf a = 0 := if_neg (by omega)
    have HR := Lib.hid hr; clear hr
    go_enter Try.func9, Try.ntmps9
    go_wp2
    go_ret
    exact ⟨ret_int HR.out.symm, rfl⟩

theorem implNumberOf (a : Int) (w : World) :
    Calls Try.prog 10 #[.int .i64 a] w fun e w' => e = .returned (.int .i64 (numberOf a)) ∧ w = w' := by
  by_cases h1 : 500000 ≤ a
  · by_cases h2 : a ≤ 100000000000
    · have hr : numberOf a = near a := if_pos ⟨h1, h2⟩
      have HR := Lib.hid hr; clear hr
      go_enter Try.func10, Try.ntmps10
      go_wp2_with (first | (go_at_call 17; refine (nearest _ _ (by omega) (by omega)).mono ?_; rintro e w' ⟨rfl, rfl⟩) | go_in)
      go_ret
      exact ⟨ret_int HR.out.symm, rfl⟩
    · have hr : numberOf a = 0 := if_neg (by omega)
      have HR := Lib.hid hr; clear hr
      go_enter Try.func10, Try.ntmps10
      go_wp2
      go_ret
      exact ⟨ret_int HR.out.symm, rfl⟩
  · have hr : numberOf a = 0 := if_neg (by omega)
    have HR := Lib.hid hr; clear hr
    go_enter Try.func10, Try.ntmps10
    go_wp2
    go_ret
    exact ⟨ret_int HR.out.symm, rfl⟩

theorem specWaveOf (a : Int) (w : World) :
    Calls Try.prog 11 #[.int .i64 a] w fun e w' => e = .returned (.int .i64 (waveOf a)) ∧ w = w' := by
  by_cases h1 : 1 ≤ a
  · by_cases h2 : a ≤ 200000
    · have hr : waveOf a = near a := if_pos ⟨h1, h2⟩
      have HR := Lib.hid hr; clear hr
      go_enter Try.func11, Try.ntmps11
      go_wp2_with (first | (go_at_call 16; refine (l32Divide _ _ (by omega) (by omega)).mono ?_; rintro e w' ⟨rfl, rfl⟩) | go_in)
      go_ret
      exact ⟨ret_int HR.out.symm, rfl⟩
    · have hr : waveOf a = 0 := if_neg (by omega)
      have HR := Lib.hid hr; clear hr
      go_enter Try.func11, Try.ntmps11
      go_wp2
      go_ret
      exact ⟨ret_int HR.out.symm, rfl⟩
  · have hr : waveOf a = 0 := if_neg (by omega)
    have HR := Lib.hid hr; clear hr
    go_enter Try.func11, Try.ntmps11
    go_wp2
    go_ret
    exact ⟨ret_int HR.out.symm, rfl⟩

theorem implWaveOf (a : Int) (w : World) :
    Calls Try.prog 12 #[.int .i64 a] w fun e w' => e = .returned (.int .i64 (waveOf a)) ∧ w = w' := by
  by_cases h1 : 1 ≤ a
  · by_cases h2 : a ≤ 200000
    · have hr : waveOf a = near a := if_pos ⟨h1, h2⟩
      have HR := Lib.hid hr; clear hr
      go_enter Try.func12, Try.ntmps12
      go_wp2_with (first | (go_at_call 17; refine (nearest _ _ (by omega) (by omega)).mono ?_; rintro e w' ⟨rfl, rfl⟩) | go_in)
      go_ret
      exact ⟨ret_int HR.out.symm, rfl⟩
    · have hr : waveOf a = 0 := if_neg (by omega)
      have HR := Lib.hid hr; clear hr
      go_enter Try.func12, Try.ntmps12
      go_wp2
      go_ret
      exact ⟨ret_int HR.out.symm, rfl⟩
  · have hr : waveOf a = 0 := if_neg (by omega)
    have HR := Lib.hid hr; clear hr
    go_enter Try.func12, Try.ntmps12
    go_wp2
    go_ret
    exact ⟨ret_int HR.out.symm, rfl⟩

end Go.Proofs.Ytiedfdnolkdooaa.Waves
