/-
  The walks of the laws on waves: each returns true and changes nothing that was there.
-/
import Derived.Test.YtiedfdnolkdooaaWaves
import Derived.Test.YtiedfdnolkdooaaDrawWaves
namespace Go.Proofs.Ytiedfdnolkdooaa.WaveLaws
open Go.RowKit Go.Proofs.Ytiedfdnolkdooaa.Rd Go.Proofs.Ytiedfdnolkdooaa.Waves Go.Proofs.Ytiedfdnolkdooaa.DrawWaves

/-- the law returns true; what was there is as it was -/
def Yes (w : World) (e : Ending) (w' : World) : Prop := e = .returned (.bool true) ∧ Below w.heap.size w w'

theorem ret_true {b : Bool} (h : b = true) : Ending.returned (.bool b) = .returned (.bool true) := by rw [h]

theorem fnExactNumberOf (a : Int) (w : World) : Calls Try.prog 3 #[.int .i64 a] w fun e w' => e = .returned (.bool true) ∧ w = w' := by
  go_enter Try.func3, Try.ntmps3
  go_wp2_with fail
  with_reducible refine (specNumberOf _ _).mono ?_
  rintro e w' ⟨rfl, rfl⟩
  go_wp2_with fail
  with_reducible refine (implNumberOf _ _).mono ?_
  rintro e w' ⟨rfl, rfl⟩
  go_wp2
  go_ret
  exact ⟨rfl, rfl⟩

theorem fnExactWaveOf (a : Int) (w : World) : Calls Try.prog 4 #[.int .i64 a] w fun e w' => e = .returned (.bool true) ∧ w = w' := by
  go_enter Try.func4, Try.ntmps4
  go_wp2_with fail
  with_reducible refine (specWaveOf _ _).mono ?_
  rintro e w' ⟨rfl, rfl⟩
  go_wp2_with fail
  with_reducible refine (implWaveOf _ _).mono ?_
  rintro e w' ⟨rfl, rfl⟩
  go_wp2
  go_ret
  exact ⟨rfl, rfl⟩

theorem fnNumber (a : Option Addr) (n c : Nat) (zs : List Int) (w : World) (h : IsRow .u8 w a n c zs) :
    Calls Try.prog 5 #[.slice a n c] w (Yes w) := by
  have HO := Lib.hid (drawNumberOf a n c zs w h)
  clear h
  by_cases hn : 1048576 < n
  · go_enter Try.func5, Try.ntmps5
    go_wp2_with fail
    go_ret
    exact ⟨rfl, Below.refl _ _⟩
  · go_enter Try.func5, Try.ntmps5
    go_wp2_with fail
    refine HO.out.mono ?_
    rintro e w1 ⟨v, v0, v1, rfl, b1⟩
    clear HO hn
    by_cases hv : 500000 ≤ v ∧ v ≤ 100000000000
    · obtain ⟨l0, l1⟩ := hv
      have e1 : numberOf v = near v := if_pos ⟨l0, l1⟩
      obtain ⟨s1, s2⟩ := near_spec v (by omega)
      have p1 := near_pos v (by omega) l1
      have p2 := near_small v l0
      have hz : (near v == 0) = false := beq_eq_false_iff_ne.2 (by omega)
      have nx : numberOf (v + 1) ≤ near v := by
        unfold numberOf
        split
        · exact near_next v (by omega)
        · omega
      have E1 := Lib.hid e1
      clear e1
      go_wp2_with fail
      with_reducible refine (implNumberOf _ _).mono ?_
      rintro e w' ⟨rfl, rfl⟩
      rw [E1.out]
      go_wp2_with fail
      with_reducible refine (specNumberOf _ _).mono ?_
      rintro e w' ⟨rfl, rfl⟩
      rw [E1.out]
      generalize near v = u at *
      clear E1
      go_wp2_with fail
      with_reducible refine (implNumberOf _ _).mono ?_
      rintro e w' ⟨rfl, rfl⟩
      go_wp2
      all_goals go_ret
      all_goals exact ⟨ret_true (by simp; omega), b1⟩
    · have e1 : numberOf v = 0 := if_neg hv
      have E1 := Lib.hid e1
      clear e1 hv
      go_wp2_with fail
      with_reducible refine (implNumberOf _ _).mono ?_
      rintro e w' ⟨rfl, rfl⟩
      rw [E1.out]
      go_wp2_with fail
      with_reducible refine (specNumberOf _ _).mono ?_
      rintro e w' ⟨rfl, rfl⟩
      rw [E1.out]
      go_wp2
      go_ret
      exact ⟨rfl, b1⟩

theorem fnWaveNear (a : Option Addr) (n c : Nat) (zs : List Int) (w : World) (h : IsRow .u8 w a n c zs) :
    Calls Try.prog 7 #[.slice a n c] w (Yes w) := by
  have HO := Lib.hid (drawWaveOf a n c zs w h)
  clear h
  by_cases hn : 1048576 < n
  · go_enter Try.func7, Try.ntmps7
    go_wp2_with fail
    go_ret
    exact ⟨rfl, Below.refl _ _⟩
  · go_enter Try.func7, Try.ntmps7
    go_wp2_with fail
    refine HO.out.mono ?_
    rintro e w1 ⟨v, v0, v1, rfl, b1⟩
    clear HO hn
    by_cases hv : 1 ≤ v ∧ v ≤ 200000
    · obtain ⟨l0, l1⟩ := hv
      have e1 : waveOf v = near v := if_pos ⟨l0, l1⟩
      obtain ⟨s1, s2⟩ := near_spec v (by omega)
      have p1 := near_ge v l0 l1
      have p2 := near_le v l0
      have hz : (near v == 0) = false := beq_eq_false_iff_ne.2 (by omega)
      have E1 := Lib.hid e1
      clear e1
      go_wp2_with fail
      with_reducible refine (implWaveOf _ _).mono ?_
      rintro e w' ⟨rfl, rfl⟩
      rw [E1.out]
      go_wp2_with fail
      with_reducible refine (specWaveOf _ _).mono ?_
      rintro e w' ⟨rfl, rfl⟩
      rw [E1.out]
      generalize near v = u at *
      clear E1
      go_wp2
      all_goals go_ret
      all_goals exact ⟨ret_true (by simp; omega), b1⟩
    · have e1 : waveOf v = 0 := if_neg hv
      have E1 := Lib.hid e1
      clear e1 hv
      go_wp2_with fail
      with_reducible refine (implWaveOf _ _).mono ?_
      rintro e w' ⟨rfl, rfl⟩
      rw [E1.out]
      go_wp2_with fail
      with_reducible refine (specWaveOf _ _).mono ?_
      rintro e w' ⟨rfl, rfl⟩
      rw [E1.out]
      go_wp2
      go_ret
      exact ⟨rfl, b1⟩

theorem fnWave (a : Option Addr) (n c : Nat) (zs : List Int) (w : World) (h : IsRow .u8 w a n c zs) :
    Calls Try.prog 8 #[.slice a n c] w (Yes w) := by
  have HO := Lib.hid (drawWaveOf a n c zs w h)
  clear h
  by_cases hn : 1048576 < n
  · go_enter Try.func8, Try.ntmps8
    go_wp2_with fail
    go_ret
    exact ⟨rfl, Below.refl _ _⟩
  · go_enter Try.func8, Try.ntmps8
    go_wp2_with fail
    refine HO.out.mono ?_
    rintro e w1 ⟨v, v0, v1, rfl, b1⟩
    clear HO hn
    by_cases hv : 1 ≤ v ∧ v ≤ 200000
    · obtain ⟨l0, l1⟩ := hv
      have e1 : waveOf v = near v := if_pos ⟨l0, l1⟩
      obtain ⟨s1, s2⟩ := near_spec v (by omega)
      have p1 := near_ge v l0 l1
      have p2 := near_le v l0
      have hz : (near v == 0) = false := beq_eq_false_iff_ne.2 (by omega)
      have e2 : numberOf (near v) = v := by
        rw [numberOf, if_pos ⟨by omega, by omega⟩]
        exact near_near v l0 l1
      have E2 := Lib.hid e2
      clear e2
      have E1 := Lib.hid e1
      clear e1
      go_wp2_with fail
      with_reducible refine (implWaveOf _ _).mono ?_
      rintro e w' ⟨rfl, rfl⟩
      rw [E1.out]
      go_wp2_with fail
      with_reducible refine (specWaveOf _ _).mono ?_
      rintro e w' ⟨rfl, rfl⟩
      rw [E1.out]
      go_wp2_with fail
      with_reducible refine (implNumberOf _ _).mono ?_
      rintro e w' ⟨rfl, rfl⟩
      rw [E2.out]
      go_wp2
      go_ret
      exact ⟨ret_true (by simp), b1⟩
    · have e1 : waveOf v = 0 := if_neg hv
      have E1 := Lib.hid e1
      clear e1 hv
      go_wp2_with fail
      with_reducible refine (implWaveOf _ _).mono ?_
      rintro e w' ⟨rfl, rfl⟩
      rw [E1.out]
      go_wp2_with fail
      with_reducible refine (specWaveOf _ _).mono ?_
      rintro e w' ⟨rfl, rfl⟩
      rw [E1.out]
      go_wp2
      go_ret
      exact ⟨rfl, b1⟩

theorem fnWaveFalls (a : Option Addr) (n c : Nat) (zs : List Int) (w : World) (h : IsRow .u8 w a n c zs) :
    Calls Try.prog 6 #[.slice a n c] w (Yes w) := by
  have HO := Lib.hid (drawWaveOf a n c zs w h)
  clear h
  by_cases hn : 1048576 < n
  · go_enter Try.func6, Try.ntmps6
    go_wp2_with fail
    go_ret
    exact ⟨rfl, Below.refl _ _⟩
  · go_enter Try.func6, Try.ntmps6
    go_wp2_with fail
    refine HO.out.mono ?_
    rintro e w1 ⟨v, v0, v1, rfl, b1⟩
    clear HO hn
    by_cases hv : 1 ≤ v ∧ v ≤ 200000
    · obtain ⟨l0, l1⟩ := hv
      have e1 : waveOf v = near v := if_pos ⟨l0, l1⟩
      obtain ⟨s1, s2⟩ := near_spec v (by omega)
      have p1 := near_ge v l0 l1
      have p2 := near_le v l0
      have hz : (near v == 0) = false := beq_eq_false_iff_ne.2 (by omega)
      have e2 : v < 200000 → waveOf (v + 1) = near (v + 1) := fun h => if_pos ⟨by omega, by omega⟩
      have e3 : v = 200000 → waveOf (v + 1) = 0 := fun h => if_neg (by omega)
      have nf := near_falls v l0 l1
      have g1 := near_pos (v + 1) (by omega) (by omega)
      have E2 := Lib.hid e2
      have E3 := Lib.hid e3
      clear e2 e3
      have E1 := Lib.hid e1
      clear e1
      go_wp2_with fail
      with_reducible refine (implWaveOf _ _).mono ?_
      rintro e w' ⟨rfl, rfl⟩
      rw [E1.out]
      go_wp2_with fail
      with_reducible refine (specWaveOf _ _).mono ?_
      rintro e w' ⟨rfl, rfl⟩
      rw [E1.out]
      by_cases hl : v < 200000
      · have hl' : (v == 200000) = false := beq_eq_false_iff_ne.2 (by omega)
        go_wp2_with fail
        with_reducible refine (implWaveOf _ _).mono ?_
        rintro e w' ⟨rfl, rfl⟩
        rw [E2.out hl]
        go_wp2_with fail
        with_reducible refine (implWaveOf _ _).mono ?_
        rintro e w' ⟨rfl, rfl⟩
        rw [E2.out hl]
        go_wp2
        go_ret
        exact ⟨ret_true (by simp), b1⟩
      · have hl' : (v == 200000) = true := beq_iff_eq.2 (by omega)
        go_wp2_with fail
        with_reducible refine (implWaveOf _ _).mono ?_
        rintro e w' ⟨rfl, rfl⟩
        rw [E3.out (by omega)]
        go_wp2
        go_ret
        exact ⟨ret_true (by simp), b1⟩
    · have e1 : waveOf v = 0 := if_neg hv
      have E1 := Lib.hid e1
      clear e1 hv
      go_wp2_with fail
      with_reducible refine (implWaveOf _ _).mono ?_
      rintro e w' ⟨rfl, rfl⟩
      rw [E1.out]
      go_wp2_with fail
      with_reducible refine (specWaveOf _ _).mono ?_
      rintro e w' ⟨rfl, rfl⟩
      rw [E1.out]
      go_wp2
      go_ret
      exact ⟨rfl, b1⟩

end Go.Proofs.Ytiedfdnolkdooaa.WaveLaws
