/-
  Delta and the triads: contracts of the program's and the reference's.
-/
import Derived.Test.YthinhhfegflmmaaFact
namespace Go.Proofs.Ythinhhfegflmmaa.Delta
open Go.RowKit Go.Proofs.Ythinhhfegflmmaa.RatP Go.Proofs.Ythinhhfegflmmaa.ChoP Go.Proofs.Ythinhhfegflmmaa.StrP Go.Proofs.Ythinhhfegflmmaa.Spin Go.Proofs.Ythinhhfegflmmaa.Row Go.Proofs.Ythinhhfegflmmaa.Later Go.Proofs.Ythinhhfegflmmaa.Fact
set_option linter.unusedVariables false
set_option linter.unusedSimpArgs false

theorem small_true {j : Int} : small j = true ↔ 0 ≤ j ∧ j ≤ 6 := by simp [small]
theorem triOk_parts {a b c : Int} (h : triOk a b c = true) : (0 ≤ a ∧ a ≤ 6) ∧ (0 ≤ b ∧ b ≤ 6) ∧ (0 ≤ c ∧ c ≤ 6) ∧ tri a b c = true ∧ (a + b + c) % 2 = 0 ∧ a ≤ b + c ∧ b ≤ a + c ∧ c ≤ a + b := by
  unfold triOk at h
  rw [Bool.and_eq_true, Bool.and_eq_true, Bool.and_eq_true] at h
  obtain ⟨⟨⟨h1, h2⟩, h3⟩, h4⟩ := h
  have h5 := tri_true.1 h4
  exact ⟨small_true.1 h1, small_true.1 h2, small_true.1 h3, h4, h5.2.2.2⟩

theorem coupleSpin (j : Int) (w : World) : Calls Try.prog 68 #[.int .i64 j] w fun e w' => e = .returned (.bool (small j)) ∧ w = w' := by
  by_cases h1 : 0 ≤ j <;> by_cases h2 : j ≤ 6
  all_goals
    go_enter Try.func68, Try.ntmps68
    go_wp2
    go_ret
    exact ⟨ret_bool (by simp [small] <;> omega), rfl⟩
theorem couple_is {j : Int} {r : Bool} (w : World) (h : small j = r) : Calls Try.prog 68 #[.int .i64 j] w fun e w' => e = .returned (.bool r) ∧ w = w' := h ▸ coupleSpin j w
set_option maxRecDepth 100000 in
set_option maxHeartbeats 1000000 in
theorem triadValid (a b c : Int) (w : World) : Calls Try.prog 70 #[.int .i64 a, .int .i64 b, .int .i64 c] w fun e w' => e = .returned (.bool (triOk a b c)) ∧ w = w' := by
  have HT := Lib.hid (fun W => iSpinTriangle a b c W)
  have HD := Lib.hid (show triOk a b c = (small a && small b && small c && tri a b c) from rfl)
  have HA := Lib.hid (fun W r (h : small a = r) => couple_is W h)
  have HB := Lib.hid (fun W r (h : small b = r) => couple_is W h)
  have HC := Lib.hid (fun W r (h : small c = r) => couple_is W h)
  generalize tri a b c = t at *
  cases h1 : small a
  · have HA1 := Lib.hid (fun W => HA.out W _ h1)
    rw [h1] at HD
    clear h1 HA
    go_enter Try.func70, Try.ntmps70
    go_wp2_with fail
    (with_reducible refine (HA1.out _).mono ?_)
    rintro e w' ⟨rfl, rfl⟩
    go_wp2
    go_ret
    exact ⟨ret_bool (by rw [HD.out]; simp), rfl⟩
  · have HA1 := Lib.hid (fun W => HA.out W _ h1)
    rw [h1] at HD
    clear h1 HA
    cases h2 : small b
    · have HB1 := Lib.hid (fun W => HB.out W _ h2)
      rw [h2] at HD
      clear h2 HB
      go_enter Try.func70, Try.ntmps70
      go_wp2_with fail
      (with_reducible refine (HA1.out _).mono ?_)
      rintro e w' ⟨rfl, rfl⟩
      go_wp2_with fail
      (with_reducible refine (HB1.out _).mono ?_)
      rintro e w' ⟨rfl, rfl⟩
      go_wp2
      go_ret
      exact ⟨ret_bool (by rw [HD.out]; simp), rfl⟩
    · have HB1 := Lib.hid (fun W => HB.out W _ h2)
      rw [h2] at HD
      clear h2 HB
      cases h3 : small c
      · have HC1 := Lib.hid (fun W => HC.out W _ h3)
        rw [h3] at HD
        clear h3 HC
        go_enter Try.func70, Try.ntmps70
        go_wp2_with fail
        (with_reducible refine (HA1.out _).mono ?_)
        rintro e w' ⟨rfl, rfl⟩
        go_wp2_with fail
        (with_reducible refine (HB1.out _).mono ?_)
        rintro e w' ⟨rfl, rfl⟩
        go_wp2_with fail
        (with_reducible refine (HC1.out _).mono ?_)
        rintro e w' ⟨rfl, rfl⟩
        go_wp2
        go_ret
        exact ⟨ret_bool (by rw [HD.out]; simp), rfl⟩
      · have HC1 := Lib.hid (fun W => HC.out W _ h3)
        rw [h3] at HD
        clear h3 HC
        go_enter Try.func70, Try.ntmps70
        go_wp2_with fail
        (with_reducible refine (HA1.out _).mono ?_)
        rintro e w' ⟨rfl, rfl⟩
        go_wp2_with fail
        (with_reducible refine (HB1.out _).mono ?_)
        rintro e w' ⟨rfl, rfl⟩
        go_wp2_with fail
        (with_reducible refine (HC1.out _).mono ?_)
        rintro e w' ⟨rfl, rfl⟩
        go_wp2_with fail
        (with_reducible refine (HT.out _).mono ?_)
        rintro e w' ⟨rfl, rfl⟩
        go_wp2
        go_ret
        exact ⟨ret_bool (by rw [HD.out]; simp), rfl⟩
theorem triad_is {a b c : Int} {r : Bool} (w : World) (h : triOk a b c = r) : Calls Try.prog 70 #[.int .i64 a, .int .i64 b, .int .i64 c] w fun e w' => e = .returned (.bool r) ∧ w = w' := h ▸ triadValid a b c w

theorem factI_bd {n : Int} (h0 : 0 ≤ n) (h1 : n ≤ 6) : 1 ≤ factI n ∧ factI n ≤ 720 := by
  obtain ⟨k, rfl⟩ := Int.eq_ofNat_of_zero_le h0
  have : ((List.range 7).all fun k => decide (1 ≤ fact k ∧ fact k ≤ 720)) = true := by decide +kernel
  have := of_decide_eq_true (List.all_eq_true.1 this k (List.mem_range.2 (by omega)))
  unfold factI
  simp only [Int.toNat_natCast]
  omega
theorem factI_bd13 {n : Int} (h0 : 0 ≤ n) (h1 : n ≤ 13) : 1 ≤ factI n ∧ factI n ≤ 6227020800 := by
  obtain ⟨k, rfl⟩ := Int.eq_ofNat_of_zero_le h0
  have := fact_bd (k := k) (by omega)
  unfold factI
  simp only [Int.toNat_natCast]
  omega
theorem three_bd {x y z : Int} (hx : 1 ≤ x ∧ x ≤ 720) (hy : 1 ≤ y ∧ y ≤ 720) (hz : 1 ≤ z ∧ z ≤ 720) : (1 ≤ x * y ∧ x * y ≤ 518400) ∧ (1 ≤ x * y * z ∧ x * y * z ≤ 373248000) := by
  have h1 := Int.mul_pos (a := x) (b := y) (by omega) (by omega)
  have h2 := Int.mul_le_mul hx.2 hy.2 (by omega) (by omega)
  have h3 := Int.mul_pos (a := x * y) (b := z) (by omega) (by omega)
  have h4 := Int.mul_le_mul (show x * y ≤ 518400 by omega) hz.2 (by omega) (by omega)
  omega

set_option maxRecDepth 100000 in
set_option maxHeartbeats 1000000 in
theorem iDelta (a b c : Int) (w : World) (h : triOk a b c = true) : Calls Try.prog 71 #[.int .i64 a, .int .i64 b, .int .i64 c] w fun e w' => e = .returned (.int .i64 (deltaI a b c)) ∧ w = w' := by
  obtain ⟨⟨a0, a1⟩, ⟨b0, b1⟩, ⟨c0, c1⟩, ht, h2, h3, h4, h5⟩ := triOk_parts h
  have HT := Lib.hid (fun W => (ht ▸ iSpinTriangle a b c W : Calls Try.prog 82 #[.int .i64 a, .int .i64 b, .int .i64 c] W fun e w' => e = .returned (.bool true) ∧ W = w'))
  have HD := Lib.hid (show deltaI a b c = factI ((a + b + c) / 2 + 1) / (factI ((a + b - c) / 2) * factI ((a - b + c) / 2) * factI ((b + c - a) / 2)) by unfold deltaI; rw [if_pos ⟨ht, by omega⟩])
  have d1 : 0 ≤ a + b - c := by omega
  have d2 : 0 ≤ a - b + c := by omega
  have d3 : 0 ≤ b + c - a := by omega
  have hs : decide (18 < (a + b + c) / 2) = false := decide_eq_false (by omega)
  have HF1 := Lib.hid (fun W => factorial ((a + b + c) / 2 + 1) W (by omega) (by omega))
  have HF2 := Lib.hid (fun W => factorial ((a + b - c) / 2) W (by omega) (by omega))
  have HF3 := Lib.hid (fun W => factorial ((a - b + c) / 2) W (by omega) (by omega))
  have HF4 := Lib.hid (fun W => factorial ((b + c - a) / 2) W (by omega) (by omega))
  have g1 := factI_bd13 (n := (a + b + c) / 2 + 1) (by omega) (by omega)
  have g2 := factI_bd (n := (a + b - c) / 2) (by omega) (by omega)
  have g3 := factI_bd (n := (a - b + c) / 2) (by omega) (by omega)
  have g4 := factI_bd (n := (b + c - a) / 2) (by omega) (by omega)
  have g5 := three_bd g2 g3 g4
  clear ht h h2
  generalize factI ((a + b + c) / 2 + 1) = F1 at *
  generalize factI ((a + b - c) / 2) = F2 at *
  generalize factI ((a - b + c) / 2) = F3 at *
  generalize factI ((b + c - a) / 2) = F4 at *
  obtain ⟨g1a, g1b⟩ := g1
  obtain ⟨g2a, g2b⟩ := g2
  obtain ⟨g3a, g3b⟩ := g3
  obtain ⟨g4a, g4b⟩ := g4
  obtain ⟨⟨g5a, g5b⟩, g6a, g6b⟩ := g5
  have hz : ¬ F2 * F3 * F4 = 0 := by omega
  have hz' : ¬ F2 * F3 * F4 = -1 := by omega
  go_enter Try.func71, Try.ntmps71
  go_wp2_with fail
  (with_reducible refine (HT.out _).mono ?_)
  rintro e w' ⟨rfl, rfl⟩
  go_wp2_with fail
  (with_reducible refine (HF1.out _).mono ?_)
  rintro e w' ⟨rfl, rfl⟩
  go_wp2_with fail
  (with_reducible refine (HF2.out _).mono ?_)
  rintro e w' ⟨rfl, rfl⟩
  go_wp2_with fail
  (with_reducible refine (HF3.out _).mono ?_)
  rintro e w' ⟨rfl, rfl⟩
  go_wp2_with fail
  (with_reducible refine (HF4.out _).mono ?_)
  rintro e w' ⟨rfl, rfl⟩
  go_wp2
  go_ret
  exact ⟨ret_int HD.out.symm, rfl⟩

theorem choI_bd {n k : Int} (h0 : 0 ≤ n) (h1 : n ≤ 12) : 0 ≤ choI n k ∧ choI n k ≤ 1000 := by
  unfold choI
  rw [if_neg (by omega)]
  split
  · omega
  · obtain ⟨N, rfl⟩ := Int.eq_ofNat_of_zero_le h0
    obtain ⟨K, rfl⟩ := Int.eq_ofNat_of_zero_le (show 0 ≤ k by omega)
    have := (bin_bd (n := N) (k := K) (by omega) (by omega)).1
    simp only [Int.toNat_natCast]
    omega

set_option maxRecDepth 100000 in
set_option maxHeartbeats 1000000 in
theorem sDelta (a b c : Int) (w : World) (h : triOk a b c = true) : Calls Try.prog 77 #[.int .i64 a, .int .i64 b, .int .i64 c] w fun e w' => e = .returned (.int .i64 (deltaS a b c)) ∧ w = w' := by
  obtain ⟨⟨a0, a1⟩, ⟨b0, b1⟩, ⟨c0, c1⟩, ht, h2, h3, h4, h5⟩ := triOk_parts h
  have HT := Lib.hid (fun W => (ht ▸ sSpinTriangle a b c W : Calls Try.prog 76 #[.int .i64 a, .int .i64 b, .int .i64 c] W fun e w' => e = .returned (.bool true) ∧ W = w'))
  have HD := Lib.hid (show deltaS a b c = ((a + b + c) / 2 + 1) * choI ((a + b + c) / 2) ((a + b - c) / 2) * choI ((a + b + c) / 2 - (a + b - c) / 2) ((a - b + c) / 2) by unfold deltaS; rw [if_pos ⟨ht, by omega⟩])
  have d1 : 0 ≤ a + b - c := by omega
  have d2 : 0 ≤ a - b + c := by omega
  have hs : decide (18 < (a + b + c) / 2) = false := decide_eq_false (by omega)
  have HF1 := Lib.hid (fun W => sChoose ((a + b + c) / 2) ((a + b - c) / 2) W (by omega) (by omega) (by omega) (by omega))
  have HF2 := Lib.hid (fun W => sChoose ((a + b + c) / 2 - (a + b - c) / 2) ((a - b + c) / 2) W (by omega) (by omega) (by omega) (by omega))
  have g1 := choI_bd (n := (a + b + c) / 2) (k := (a + b - c) / 2) (by omega) (by omega)
  have g2 := choI_bd (n := (a + b + c) / 2 - (a + b - c) / 2) (k := (a - b + c) / 2) (by omega) (by omega)
  clear ht h h2
  generalize choI ((a + b + c) / 2) ((a + b - c) / 2) = F1 at *
  generalize choI ((a + b + c) / 2 - (a + b - c) / 2) ((a - b + c) / 2) = F2 at *
  obtain ⟨g1a, g1b⟩ := g1
  obtain ⟨g2a, g2b⟩ := g2
  have p1 := mul_bds (a := (a + b + c) / 2 + 1) (b := F1) (A := 10) (B := 1000) (by omega) (by omega) (by omega) (by omega) (by omega)
  have p2 := mul_bds (a := ((a + b + c) / 2 + 1) * F1) (b := F2) (A := 10000) (B := 1000) (by omega) (by omega) (by omega) (by omega) (by omega)
  obtain ⟨p1a, p1b⟩ := p1
  obtain ⟨p2a, p2b⟩ := p2
  go_enter Try.func77, Try.ntmps77
  go_wp2_with fail
  (with_reducible refine (HT.out _).mono ?_)
  rintro e w' ⟨rfl, rfl⟩
  go_wp2_with fail
  (with_reducible refine (HF1.out _).mono ?_)
  rintro e w' ⟨rfl, rfl⟩
  go_wp2_with fail
  (with_reducible refine (HF2.out _).mono ?_)
  rintro e w' ⟨rfl, rfl⟩
  go_wp2
  go_ret
  exact ⟨ret_int HD.out.symm, rfl⟩

end Go.Proofs.Ythinhhfegflmmaa.Delta
