/-
  Contracts of the small functions on lines: which lines there are, their order.
-/
import Derived.Test.YtgkgdnocleajcaaLine
import Derived.StillTailTactics
import Derived.Sort.Grow
namespace Go.Proofs.Ytgkgdnocleajcaa.LinesFn
open Go.RowKit Go.Proofs.Ytgkgdnocleajcaa.Spin Go.Proofs.Ytgkgdnocleajcaa.Row Go.Proofs.Ytgkgdnocleajcaa.Plain Go.Proofs.Ytgkgdnocleajcaa.Later Go.Proofs.Ytgkgdnocleajcaa.Node Go.Proofs.Ytgkgdnocleajcaa.Line
set_option linter.unusedVariables false
set_option linter.unusedSimpArgs false

theorem absI_absD (n : Int) : absI n = absD n := rfl
theorem stepsBy (a b : Int) (w : World) (ha : 0 ≤ a ∧ a ≤ 24) (hb : 0 ≤ b ∧ b ≤ 24) :
    Calls Try.prog 42 #[.int .i64 a, .int .i64 b, .int .i64 2] w fun e w' => e = .returned (.bool (near2 a b)) ∧ w = w' := by
  obtain ⟨ha0, ha1⟩ := ha
  obtain ⟨hb0, hb1⟩ := hb
  by_cases h1 : absI (a - b) ≤ 2
  · by_cases h2 : a = 0
    · have HR := Lib.hid (show near2 a b = (b != 0) by unfold near2; rw [← absI_absD, decide_eq_true h1]; simp [h2])
      have h2' : (a != 0) = false := by simp [h2]
      clear h2
      go_enter Try.func42, Try.ntmps42
      go_wp2_with fail
      (with_reducible refine (iabs _ _ (by omega) (by omega)).mono ?_)
      rintro e w' ⟨rfl, rfl⟩
      go_wp2
      go_ret
      exact ⟨ret_bool HR.out.symm, rfl⟩
    · have HR := Lib.hid (show near2 a b = true by unfold near2; rw [← absI_absD, decide_eq_true h1]; simp [h2])
      have h2' : (a != 0) = true := by simp [h2]
      clear h2
      go_enter Try.func42, Try.ntmps42
      go_wp2_with fail
      (with_reducible refine (iabs _ _ (by omega) (by omega)).mono ?_)
      rintro e w' ⟨rfl, rfl⟩
      go_wp2
      go_ret
      exact ⟨ret_bool HR.out.symm, rfl⟩
  · have HR := Lib.hid (show near2 a b = false by simp [near2, ← absI_absD, h1])
    go_enter Try.func42, Try.ntmps42
    go_wp2_with fail
    (with_reducible refine (iabs _ _ (by omega) (by omega)).mono ?_)
    rintro e w' ⟨rfl, rfl⟩
    go_wp2
    go_ret
    exact ⟨ret_bool HR.out.symm, rfl⟩
theorem l25Near (a b : Int) (w : World) (ha : 0 ≤ a ∧ a ≤ 24) (hb : 0 ≤ b ∧ b ≤ 24) :
    Calls Try.prog 56 #[.int .i64 a, .int .i64 b, .int .i64 2] w fun e w' => e = .returned (.bool (near2 a b)) ∧ w = w' := by
  obtain ⟨ha0, ha1⟩ := ha
  obtain ⟨hb0, hb1⟩ := hb
  by_cases h1 : absI (a - b) ≤ 2
  · by_cases h2 : a = 0
    · have HR := Lib.hid (show near2 a b = (b != 0) by unfold near2; rw [← absI_absD, decide_eq_true h1]; simp [h2])
      have h2' : (a != 0) = false := by simp [h2]
      clear h2
      go_enter Try.func56, Try.ntmps56
      go_wp2_with fail
      (with_reducible refine (l1Abs _ _ (by omega) (by omega)).mono ?_)
      rintro e w' ⟨rfl, rfl⟩
      go_wp2
      go_ret
      exact ⟨ret_bool HR.out.symm, rfl⟩
    · have HR := Lib.hid (show near2 a b = true by unfold near2; rw [← absI_absD, decide_eq_true h1]; simp [h2])
      have h2' : (a != 0) = true := by simp [h2]
      clear h2
      go_enter Try.func56, Try.ntmps56
      go_wp2_with fail
      (with_reducible refine (l1Abs _ _ (by omega) (by omega)).mono ?_)
      rintro e w' ⟨rfl, rfl⟩
      go_wp2
      go_ret
      exact ⟨ret_bool HR.out.symm, rfl⟩
  · have HR := Lib.hid (show near2 a b = false by simp [near2, ← absI_absD, h1])
    go_enter Try.func56, Try.ntmps56
    go_wp2_with fail
    (with_reducible refine (l1Abs _ _ (by omega) (by omega)).mono ?_)
    rintro e w' ⟨rfl, rfl⟩
    go_wp2
    go_ret
    exact ⟨ret_bool HR.out.symm, rfl⟩
theorem l31Allowed (x y : Nd) (w : World) (hx : 0 ≤ x.j ∧ x.j ≤ 24) (hy : 0 ≤ y.j ∧ y.j ≤ 24) :
    Calls Try.prog 47 #[.agg #[.int .i64 x.e, .int .i64 x.j, .bool x.o], .agg #[.int .i64 y.e, .int .i64 y.j, .bool y.o]] w (Gives (.bool (allow x y)) w) := by
  obtain ⟨xe, xj, xo⟩ := x
  obtain ⟨ye, yj, yo⟩ := y
  simp only at hx hy ⊢
  by_cases h : xo = yo
  · have HR := Lib.hid (show allow ⟨xe, xj, xo⟩ ⟨ye, yj, yo⟩ = false by simp [allow, h])
    subst h
    go_enter Try.func47, Try.ntmps47
    go_wp2
    go_ret
    exact ⟨ret_bool HR.out.symm, (by repeat (first | (with_reducible refine Below.drew ?_) | (with_reducible refine below_drewN ?_ _) | (with_reducible refine Below.alloc ?_ ?_ _) | (with_reducible refine Below.setCell ?_ ?_ _) | (with_reducible assumption) | (with_reducible exact Below.refl _ _) | omega | (simp <;> omega)))⟩
  · have HR := Lib.hid (show allow ⟨xe, xj, xo⟩ ⟨ye, yj, yo⟩ = near2 xj yj by simp [allow, h])
    go_enter Try.func47, Try.ntmps47
    go_wp2_with fail
    (with_reducible refine (l25Near _ _ _ hx hy).mono ?_)
    rintro e w' ⟨rfl, rfl⟩
    go_wp2
    go_ret
    exact ⟨ret_bool HR.out.symm, (by repeat (first | (with_reducible refine Below.drew ?_) | (with_reducible refine below_drewN ?_ _) | (with_reducible refine Below.alloc ?_ ?_ _) | (with_reducible refine Below.setCell ?_ ?_ _) | (with_reducible assumption) | (with_reducible exact Below.refl _ _) | omega | (simp <;> omega)))⟩
theorem l31Ahead (x y : Ln) (w : World) :
    Calls Try.prog 57 #[.agg #[.int .i64 (x.u : Int), .int .i64 (x.l : Int), .int .i64 x.n], .agg #[.int .i64 (y.u : Int), .int .i64 (y.l : Int), .int .i64 y.n]] w (Gives (.bool (lt x y)) w) := by
  by_cases h1 : x.n = y.n
  · have h1' : (x.n != y.n) = false := by simp [h1]
    by_cases h2 : (x.u : Int) < (y.u : Int)
    · have HR := Lib.hid (show lt x y = true by rw [lt_iff]; omega)
      clear h1
      go_enter Try.func57, Try.ntmps57
      go_wp2
      go_ret
      exact ⟨ret_bool HR.out.symm, (by repeat (first | (with_reducible refine Below.drew ?_) | (with_reducible refine below_drewN ?_ _) | (with_reducible refine Below.alloc ?_ ?_ _) | (with_reducible refine Below.setCell ?_ ?_ _) | (with_reducible assumption) | (with_reducible exact Below.refl _ _) | omega | (simp <;> omega)))⟩
    · by_cases h3 : (x.u : Int) = (y.u : Int)
      · have HR := Lib.hid (show lt x y = decide ((x.l : Int) < (y.l : Int)) by rw [Bool.eq_iff_iff, lt_iff, decide_eq_true_eq]; omega)
        have h3' : ((x.u : Int) == (y.u : Int)) = true := by simpa using h3
        clear h1 h3
        go_enter Try.func57, Try.ntmps57
        go_wp2
        go_ret
        exact ⟨ret_bool (by rw [HR.out]; simp), (by repeat (first | (with_reducible refine Below.drew ?_) | (with_reducible refine below_drewN ?_ _) | (with_reducible refine Below.alloc ?_ ?_ _) | (with_reducible refine Below.setCell ?_ ?_ _) | (with_reducible assumption) | (with_reducible exact Below.refl _ _) | omega | (simp <;> omega)))⟩
      · have HR := Lib.hid (show lt x y = false by rw [lt_not]; omega)
        have h3' : ((x.u : Int) == (y.u : Int)) = false := by simpa using h3
        have h3'' : ¬ x.u = y.u := by omega
        clear h1 h3
        go_enter Try.func57, Try.ntmps57
        go_wp2
        go_ret
        exact ⟨ret_bool HR.out.symm, (by repeat (first | (with_reducible refine Below.drew ?_) | (with_reducible refine below_drewN ?_ _) | (with_reducible refine Below.alloc ?_ ?_ _) | (with_reducible refine Below.setCell ?_ ?_ _) | (with_reducible assumption) | (with_reducible exact Below.refl _ _) | omega | (simp <;> omega)))⟩
  · have h1' : (x.n != y.n) = true := by simp [h1]
    have HR := Lib.hid (show lt x y = decide (x.n < y.n) by rw [Bool.eq_iff_iff, lt_iff, decide_eq_true_eq]; omega)
    go_enter Try.func57, Try.ntmps57
    go_wp2
    all_goals go_ret
    all_goals exact ⟨ret_bool HR.out.symm, (by repeat (first | (with_reducible refine Below.drew ?_) | (with_reducible refine below_drewN ?_ _) | (with_reducible refine Below.alloc ?_ ?_ _) | (with_reducible refine Below.setCell ?_ ?_ _) | (with_reducible assumption) | (with_reducible exact Below.refl _ _) | omega | (simp <;> omega)))⟩
theorem ahead_yes {x y : Ln} (w : World) (h : lt x y = true) : Calls Try.prog 57 #[.agg #[.int .i64 (x.u : Int), .int .i64 (x.l : Int), .int .i64 x.n], .agg #[.int .i64 (y.u : Int), .int .i64 (y.l : Int), .int .i64 y.n]] w (Gives (.bool true) w) := h ▸ l31Ahead x y w
theorem ahead_no {x y : Ln} (w : World) (h : lt x y = false) : Calls Try.prog 57 #[.agg #[.int .i64 (x.u : Int), .int .i64 (x.l : Int), .int .i64 x.n], .agg #[.int .i64 (y.u : Int), .int .i64 (y.l : Int), .int .i64 y.n]] w (Gives (.bool false) w) := h ▸ l31Ahead x y w

/-! ### the program's comparison -/
def cmpI (a b : Int) : Int := if a < b then -1 else if b < a then 1 else 0
def or3 (a b c : Int) : Int := if a = 0 then (if b = 0 then c else b) else a
def cmpLn (x y : Ln) : Int := or3 (cmpI x.n y.n) (cmpI x.u y.u) (cmpI x.l y.l)

theorem isNaN (x : Int) (w : World) : Calls Try.prog 55 #[.int .i64 x] w fun e w' => e = .returned (.bool false) ∧ w = w' := by
  go_enter Try.func55, Try.ntmps55
  go_wp2
  go_ret
  exact ⟨rfl, rfl⟩
theorem compare (a b : Int) (w : World) : Calls Try.prog 46 #[.int .i64 a, .int .i64 b] w fun e w' => e = .returned (.int .i64 (cmpI a b)) ∧ w' = w := by
  by_cases h1 : a < b
  · have HR := Lib.hid (show cmpI a b = -1 by simp [cmpI, h1])
    go_enter Try.func46, Try.ntmps46
    go_wp2_with (go_at_call 55; refine (isNaN _ _).mono ?_; rintro e w' ⟨rfl, rfl⟩)
    go_ret
    exact ⟨ret_int HR.out.symm, rfl⟩
  · by_cases h2 : b < a
    · have HR := Lib.hid (show cmpI a b = 1 by simp [cmpI, h1, h2])
      go_enter Try.func46, Try.ntmps46
      go_wp2_with (go_at_call 55; refine (isNaN _ _).mono ?_; rintro e w' ⟨rfl, rfl⟩)
      go_ret
      exact ⟨ret_int HR.out.symm, rfl⟩
    · have HR := Lib.hid (show cmpI a b = 0 by simp [cmpI, h1, h2])
      go_enter Try.func46, Try.ntmps46
      go_wp2_with (go_at_call 55; refine (isNaN _ _).mono ?_; rintro e w' ⟨rfl, rfl⟩)
      go_ret
      exact ⟨ret_int HR.out.symm, rfl⟩

set_option maxHeartbeats 1000000 in
theorem cmpOr (a b c : Int) (g : Nat) (w : World) (h0 : w.cell? ⟨g, 0, none⟩ = some (.int .i64 a)) (h1 : w.cell? ⟨g, 1, none⟩ = some (.int .i64 b)) (h2 : w.cell? ⟨g, 2, none⟩ = some (.int .i64 c)) :
    Calls Try.prog 45 #[.slice (some ⟨g, 0, none⟩) 3 3] w fun e w' => e = .returned (.int .i64 (or3 a b c)) ∧ w' = w := by
  by_cases ha : a = 0
  · by_cases hb : b = 0
    · have HR := Lib.hid (show or3 a b c = c by simp [or3, ha, hb])
      subst ha hb
      by_cases hc : c = 0
      · subst hc
        go_enter Try.func45, Try.ntmps45
        go_wp2
        refine wp_loop_rounds 4 ?_
        rw [rounds_succ]
        go_wp2
        rw [rounds_succ]
        go_wp2
        rw [rounds_succ]
        go_wp2
        rw [rounds_succ]
        go_wp2
        go_ret
        exact ⟨ret_int HR.out.symm, rfl⟩
      · have hc' : (c != 0) = true := by simp [hc]
        go_enter Try.func45, Try.ntmps45
        go_wp2
        refine wp_loop_rounds 4 ?_
        rw [rounds_succ]
        go_wp2
        rw [rounds_succ]
        go_wp2
        rw [rounds_succ]
        go_wp2
        go_ret
        exact ⟨ret_int HR.out.symm, rfl⟩
    · have HR := Lib.hid (show or3 a b c = b by simp [or3, ha, hb])
      have hb' : (b != 0) = true := by simp [hb]
      subst ha
      go_enter Try.func45, Try.ntmps45
      go_wp2
      refine wp_loop_rounds 4 ?_
      rw [rounds_succ]
      go_wp2
      rw [rounds_succ]
      go_wp2
      go_ret
      exact ⟨ret_int HR.out.symm, rfl⟩
  · have HR := Lib.hid (show or3 a b c = a by simp [or3, ha])
    have ha' : (a != 0) = true := by simp [ha]
    go_enter Try.func45, Try.ntmps45
    go_wp2
    refine wp_loop_rounds 4 ?_
    rw [rounds_succ]
    go_wp2
    go_ret
    exact ⟨ret_int HR.out.symm, rfl⟩

end Go.Proofs.Ytgkgdnocleajcaa.LinesFn
