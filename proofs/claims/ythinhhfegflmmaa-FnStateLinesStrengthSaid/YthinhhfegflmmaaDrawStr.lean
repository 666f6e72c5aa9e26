/-
  The draws of a level and a term, and of two terms.
-/
import Derived.Test.YthinhhfegflmmaaDrawState
namespace Go.Proofs.Ythinhhfegflmmaa.DrawStr
open Go.RowKit Go.Proofs.Ythinhhfegflmmaa.Spin Go.Proofs.Ythinhhfegflmmaa.Row Go.Proofs.Ythinhhfegflmmaa.Coupled Go.Proofs.Ythinhhfegflmmaa.Rd Go.Proofs.Ythinhhfegflmmaa.DrawTerm Go.Proofs.Ythinhhfegflmmaa.DrawNear Go.Proofs.Ythinhhfegflmmaa.DrawState
set_option linter.unusedVariables false
set_option linter.unusedSimpArgs false

def SomeLevelTerm (w : World) (e : Ending) (w' : World) : Prop :=
  ∃ (s l j s' l' j' : Int), (0 ≤ s ∧ s ≤ 3 ∧ 0 ≤ l ∧ l ≤ 2 ∧ 0 ≤ j ∧ j ≤ 31) ∧ (0 ≤ s' ∧ s' ≤ 9 ∧ 0 ≤ l' ∧ l' ≤ 4 ∧ -2 ≤ j' ∧ j' ≤ 31) ∧ e = .returned (.tuple #[.agg #[.int .i64 s, .int .i64 l, .int .i64 j], .agg #[.int .i64 s', .int .i64 l']]) ∧ Below w.heap.size w w'
def SomeTwoTerms (w : World) (e : Ending) (w' : World) : Prop :=
  ∃ (s l j s' l' j' : Int), (0 ≤ s ∧ s ≤ 3 ∧ 0 ≤ l ∧ l ≤ 2 ∧ 0 ≤ j ∧ j ≤ 31) ∧ (0 ≤ s' ∧ s' ≤ 9 ∧ 0 ≤ l' ∧ l' ≤ 4 ∧ -2 ≤ j' ∧ j' ≤ 31) ∧ e = .returned (.tuple #[.agg #[.int .i64 s, .int .i64 l], .agg #[.int .i64 s', .int .i64 l']]) ∧ Below w.heap.size w w'

set_option maxRecDepth 100000 in
set_option maxHeartbeats 2000000 in
theorem drawStrengthSum (a : Option Addr) (n c : Nat) (zs : List Int) (w : World) (h : IsRow .u8 w a n c zs) :
    Calls Try.prog 8 #[.slice a n c] w (SomeLevelTerm w) := by
  have hrow : IsRow .u8 ((w.alloc (.cells #[.int .i64 0, .int .i64 0, .int .i64 0] 26)).alloc (.cells #[.int .i64 0, .int .i64 0] 24)) a n c zs := h.below (B := w.heap.size) (fun i hi => (Below.heap_alloc _ _ _ (by simp; omega)).trans (Below.heap_alloc _ _ _ hi)) h.lt
  have HO := Lib.hid (open_any a n c zs _ hrow)
  clear h hrow
  go_enter Try.func8, Try.ntmps8
  go_wp2_with fail
  refine HO.out.mono ?_
  rintro e w1 ⟨rfl, b1, s1, r1⟩
  have HA1 := Lib.hid ((b1.block w.heap.size (by simp; omega)).trans (two_new w (.cells #[.int .i64 0, .int .i64 0, .int .i64 0] 26) (.cells #[.int .i64 0, .int .i64 0] 24)).1)
  have HC1 := Lib.hid ((b1.block (w.heap.size + 1) (by simp)).trans (two_new w (.cells #[.int .i64 0, .int .i64 0, .int .i64 0] 26) (.cells #[.int .i64 0, .int .i64 0] 24)).2)
  have B1 : Below w.heap.size w w1 := Below.trans (by repeat (first | (with_reducible refine Below.drew ?_) | (with_reducible refine below_drewN ?_ _) | (with_reducible refine Below.alloc ?_ ?_ _) | (with_reducible refine Below.setCell ?_ ?_ _) | (with_reducible assumption) | (with_reducible exact Below.refl _ _) | omega | (simp <;> omega))) (b1.mono (by simp; omega))
  simp at s1 r1
  obtain ⟨R, hR⟩ : ∃ R, R = w.heap.size + 1 + 1 := ⟨_, rfl⟩
  simp only [World.size_alloc]
  rw [← hR] at r1 ⊢
  have n0 : w.heap.size ≠ R := by omega
  have n1 : w.heap.size + 1 ≠ R := by omega
  have N0 := Lib.hid n0
  have N1 := Lib.hid n1
  have hRl : w.heap.size + 1 < R := by omega
  clear b1 HO hR n0 n1
  go_wp2_with fail
  (with_reducible refine (l92Near R 0 _ r1 (by omega)).mono ?_)
  rintro e w2 ⟨s, l, j, s', l', j', q1, q2, rfl, g2, r2⟩
  have HA2 := Lib.hid ((g2.block _ (by omega) (fun e => N0.out (by injection e))).trans HA1.out)
  have HC2 := Lib.hid ((g2.block _ (by omega) (fun e => N1.out (by injection e))).trans HC1.out)
  have B2 := drawn_below B1 g2 (by omega)
  have s2 := g2.size
  clear HA1 HC1 g2 B1
  have z1 : ¬ w.heap.size = w2.heap.size := by omega
  have z2 : ¬ w.heap.size = w2.heap.size + 1 := by omega
  have z3 : ¬ w.heap.size + 1 = w2.heap.size := by omega
  have z4 : ¬ w.heap.size + 1 = w2.heap.size + 1 := by omega
  have y1 : w.heap.size < w2.heap.size := by omega
  have y2 : w.heap.size + 1 < w2.heap.size := by omega
  obtain ⟨a0, a1, a2, fa0, fa1, fa2⟩ := blk3 HA2.out
  obtain ⟨c0, c1, fc0, fc1⟩ := blk2 HC2.out
  go_wp2_with fail
  go_region
  go_wp2
  refine bodyPost_ret (v := .tuple #[.agg #[.int .i64 s, .int .i64 l, .int .i64 j], .agg #[.int .i64 s', .int .i64 l']]) (by simp [results, Try.results8, go_sem, *, lt2, lt3, lt4, lt5, lt6]) rfl ⟨s, l, j, s', l', j', q1, q2, rfl, (by repeat (first | (with_reducible refine Below.drew ?_) | (with_reducible refine below_drewN ?_ _) | (with_reducible refine Below.alloc ?_ ?_ _) | (with_reducible refine Below.setCell ?_ ?_ _) | (with_reducible assumption) | (with_reducible exact Below.refl _ _) | omega | (simp <;> omega)))⟩

set_option maxRecDepth 100000 in
set_option maxHeartbeats 2000000 in
theorem drawStrengthTotal (a : Option Addr) (n c : Nat) (zs : List Int) (w : World) (h : IsRow .u8 w a n c zs) :
    Calls Try.prog 15 #[.slice a n c] w (SomeTwoTerms w) := by
  have hrow : IsRow .u8 ((w.alloc (.cells #[.int .i64 0, .int .i64 0] 24)).alloc (.cells #[.int .i64 0, .int .i64 0] 24)) a n c zs := h.below (B := w.heap.size) (fun i hi => (Below.heap_alloc _ _ _ (by simp; omega)).trans (Below.heap_alloc _ _ _ hi)) h.lt
  have HO := Lib.hid (open_any a n c zs _ hrow)
  clear h hrow
  go_enter Try.func15, Try.ntmps15
  go_wp2_with fail
  refine HO.out.mono ?_
  rintro e w1 ⟨rfl, b1, s1, r1⟩
  have HA1 := Lib.hid ((b1.block w.heap.size (by simp; omega)).trans (two_new w (.cells #[.int .i64 0, .int .i64 0] 24) (.cells #[.int .i64 0, .int .i64 0] 24)).1)
  have HC1 := Lib.hid ((b1.block (w.heap.size + 1) (by simp)).trans (two_new w (.cells #[.int .i64 0, .int .i64 0] 24) (.cells #[.int .i64 0, .int .i64 0] 24)).2)
  have B1 : Below w.heap.size w w1 := Below.trans (by repeat (first | (with_reducible refine Below.drew ?_) | (with_reducible refine below_drewN ?_ _) | (with_reducible refine Below.alloc ?_ ?_ _) | (with_reducible refine Below.setCell ?_ ?_ _) | (with_reducible assumption) | (with_reducible exact Below.refl _ _) | omega | (simp <;> omega))) (b1.mono (by simp; omega))
  simp at s1 r1
  obtain ⟨R, hR⟩ : ∃ R, R = w.heap.size + 1 + 1 := ⟨_, rfl⟩
  simp only [World.size_alloc]
  rw [← hR] at r1 ⊢
  have n0 : w.heap.size ≠ R := by omega
  have n1 : w.heap.size + 1 ≠ R := by omega
  have N0 := Lib.hid n0
  have N1 := Lib.hid n1
  have hRl : w.heap.size + 1 < R := by omega
  clear b1 HO hR n0 n1
  go_wp2_with fail
  (with_reducible refine (l92Near R 0 _ r1 (by omega)).mono ?_)
  rintro e w2 ⟨s, l, j, s', l', j', q1, q2, rfl, g2, r2⟩
  have HA2 := Lib.hid ((g2.block _ (by omega) (fun e => N0.out (by injection e))).trans HA1.out)
  have HC2 := Lib.hid ((g2.block _ (by omega) (fun e => N1.out (by injection e))).trans HC1.out)
  have B2 := drawn_below B1 g2 (by omega)
  have s2 := g2.size
  clear HA1 HC1 g2 B1
  have z1 : ¬ w.heap.size = w2.heap.size := by omega
  have z2 : ¬ w.heap.size = w2.heap.size + 1 := by omega
  have z3 : ¬ w.heap.size + 1 = w2.heap.size := by omega
  have z4 : ¬ w.heap.size + 1 = w2.heap.size + 1 := by omega
  have y1 : w.heap.size < w2.heap.size := by omega
  have y2 : w.heap.size + 1 < w2.heap.size := by omega
  obtain ⟨a0, a1, fa0, fa1⟩ := blk2 HA2.out
  obtain ⟨c0, c1, fc0, fc1⟩ := blk2 HC2.out
  go_wp2_with fail
  go_region
  go_wp2
  refine bodyPost_ret (v := .tuple #[.agg #[.int .i64 s, .int .i64 l], .agg #[.int .i64 s', .int .i64 l']]) (by simp [results, Try.results15, go_sem, *, lt2, lt3, lt4, lt5, lt6]) rfl ⟨s, l, j, s', l', j', q1, q2, rfl, (by repeat (first | (with_reducible refine Below.drew ?_) | (with_reducible refine below_drewN ?_ _) | (with_reducible refine Below.alloc ?_ ?_ _) | (with_reducible refine Below.setCell ?_ ?_ _) | (with_reducible assumption) | (with_reducible exact Below.refl _ _) | omega | (simp <;> omega)))⟩

end Go.Proofs.Ythinhhfegflmmaa.DrawStr
