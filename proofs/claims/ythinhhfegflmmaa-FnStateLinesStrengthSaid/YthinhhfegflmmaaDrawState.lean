/-
  The draws of states and of terms with a parity, out of a code.
-/
import Derived.Test.YthinhhfegflmmaaDrawNear
import Derived.RegionTactic
namespace Go.Proofs.Ythinhhfegflmmaa.DrawState
open Go.RowKit Go.Proofs.Ythinhhfegflmmaa.Spin Go.Proofs.Ythinhhfegflmmaa.Row Go.Proofs.Ythinhhfegflmmaa.Coupled Go.Proofs.Ythinhhfegflmmaa.Rd Go.Proofs.Ythinhhfegflmmaa.DrawTerm Go.Proofs.Ythinhhfegflmmaa.DrawNear
set_option linter.unusedVariables false
set_option linter.unusedSimpArgs false

theorem blk2 {w : World} {b : Nat} {x y : Value} {t : TypeId} (h : w.heap[b]? = some (.cells #[x, y] t (0, 0))) :
    w.cell? ⟨b, 0, none⟩ = some x ∧ w.cell? ⟨b, 1, none⟩ = some y ∧ w.frozen? ⟨b, 0, none⟩ = false ∧ w.frozen? ⟨b, 1, none⟩ = false := by
  refine ⟨?_, ?_, ?_, ?_⟩ <;> simp [World.cell?, World.frozen?, h]
theorem blk4 {w : World} {b : Nat} {x y z u : Value} {t : TypeId} (h : w.heap[b]? = some (.cells #[x, y, z, u] t (0, 0))) :
    w.cell? ⟨b, 0, none⟩ = some x ∧ w.cell? ⟨b, 1, none⟩ = some y ∧ w.cell? ⟨b, 2, none⟩ = some z ∧ w.cell? ⟨b, 3, none⟩ = some u ∧ w.frozen? ⟨b, 0, none⟩ = false ∧ w.frozen? ⟨b, 1, none⟩ = false ∧ w.frozen? ⟨b, 2, none⟩ = false ∧ w.frozen? ⟨b, 3, none⟩ = false := by
  refine ⟨?_, ?_, ?_, ?_, ?_, ?_, ?_, ?_⟩ <;> simp [World.cell?, World.frozen?, h]

/-- what the reader of a call's own has changed lies above what was there -/
theorem drawn_below {w W w' : World} {R : Nat} (hB : Below w.heap.size w W) (hg : W.grownBy w' (some R)) (hR : w.heap.size ≤ R) : Below w.heap.size w w' :=
  below_only hB hg hB.size (fun g h => by cases h; exact hR)

def SomeTermOdd (w : World) (e : Ending) (w' : World) : Prop :=
  ∃ (s l : Int) (o : Bool), -1 ≤ s ∧ s ≤ 9 ∧ -1 ≤ l ∧ l ≤ 9 ∧ e = .returned (.tuple #[.agg #[.int .i64 s, .int .i64 l], .bool o]) ∧ Below w.heap.size w w'


def SomeStates (w : World) (e : Ending) (w' : World) : Prop :=
  ∃ (s1 l1 j1 : Int) (o1 : Bool) (s2 l2 j2 : Int) (o2 : Bool), (0 ≤ s1 ∧ s1 ≤ 3 ∧ 0 ≤ l1 ∧ l1 ≤ 2 ∧ 0 ≤ j1 ∧ j1 ≤ 31) ∧ (0 ≤ s2 ∧ s2 ≤ 9 ∧ 0 ≤ l2 ∧ l2 ≤ 4 ∧ -2 ≤ j2 ∧ j2 ≤ 31) ∧ e = .returned (.tuple #[.agg #[.int .i64 s1, .int .i64 l1, .int .i64 j1, .bool o1], .agg #[.int .i64 s2, .int .i64 l2, .int .i64 j2, .bool o2]]) ∧ Below w.heap.size w w'

set_option maxRecDepth 100000 in
set_option maxHeartbeats 2000000 in
theorem drawStateAllowed (a : Option Addr) (n c : Nat) (zs : List Int) (w : World) (h : IsRow .u8 w a n c zs) :
    Calls Try.prog 18 #[.slice a n c] w (SomeStates w) := by
  have hrow : IsRow .u8 ((w.alloc (.cells #[.int .i64 0, .int .i64 0, .int .i64 0, .bool false] 44)).alloc (.cells #[.int .i64 0, .int .i64 0, .int .i64 0, .bool false] 44)) a n c zs := h.below (B := w.heap.size) (fun i hi => (Below.heap_alloc _ _ _ (by simp; omega)).trans (Below.heap_alloc _ _ _ hi)) h.lt
  have HO := Lib.hid (open_any a n c zs _ hrow)
  clear h hrow
  go_enter Try.func18, Try.ntmps18
  go_wp2_with fail
  refine HO.out.mono ?_
  rintro e w1 ⟨rfl, b1, s1, r1⟩
  have HA1 := Lib.hid ((b1.block w.heap.size (by simp; omega)).trans (two_new w (.cells #[.int .i64 0, .int .i64 0, .int .i64 0, .bool false] 44) (.cells #[.int .i64 0, .int .i64 0, .int .i64 0, .bool false] 44)).1)
  have HC1 := Lib.hid ((b1.block (w.heap.size + 1) (by simp)).trans (two_new w (.cells #[.int .i64 0, .int .i64 0, .int .i64 0, .bool false] 44) (.cells #[.int .i64 0, .int .i64 0, .int .i64 0, .bool false] 44)).2)
  have B1 : Below w.heap.size w w1 := Below.trans (by repeat (first | (with_reducible refine Below.drew ?_) | (with_reducible refine below_drewN ?_ _) | (with_reducible refine Below.alloc ?_ ?_ _) | (with_reducible refine Below.setCell ?_ ?_ _) | (with_reducible assumption) | (with_reducible exact Below.refl _ _) | omega | (simp <;> omega))) (b1.mono (by simp; omega))
  simp at s1 r1
  obtain ⟨R, hR⟩ : ∃ R, R = w.heap.size + 1 + 1 := ⟨_, rfl⟩
  simp only [World.size_alloc]
  rw [← hR] at r1 ⊢
  have n0 : w.heap.size ≠ R := by omega
  have n1 : w.heap.size + 1 ≠ R := by omega
  have N0 := Lib.hid n0
  have N1 := Lib.hid n1
  have hRl : w.heap.size + 1 < R := by omega
  clear b1 HO hR n0 n1
  go_wp2_with fail
  (with_reducible refine (l92Near R 0 _ r1 (by omega)).mono ?_)
  rintro e w2 ⟨s, l, j, s', l', j', q1, q2, rfl, g2, r2⟩
  have HA2 := Lib.hid ((g2.block _ (by omega) (fun e => N0.out (by injection e))).trans HA1.out)
  have HC2 := Lib.hid ((g2.block _ (by omega) (fun e => N1.out (by injection e))).trans HC1.out)
  have B2 := drawn_below B1 g2 (by omega)
  have s2 := g2.size
  clear HA1 HC1 g2 B1
  have nX : w2.heap.size ≠ R := by have := r2.lt; omega
  have nY : w2.heap.size + 1 ≠ R := by have := r2.lt; omega
  have NX := Lib.hid nX
  have NY := Lib.hid nY
  clear nX nY
  go_wp2_with fail
  (with_reducible refine (pick_any R (0 + 20) _ _ (by repeat (first | (with_reducible assumption) | (with_reducible refine Rd.alloc ?_ _) | (with_reducible refine Rd.setCell ?_ ?_ _) | (with_reducible refine Rd.drew ?_) | omega | (simp <;> omega))) (by omega) (by omega)).mono ?_)
  rintro e w3 ⟨v3, v3l, v3h, rfl, m3⟩
  have r3 := m3.rd
  have tn := two_new w2 (.cells #[.int .i64 s, .int .i64 l, .int .i64 j] 26) (.cells #[.int .i64 s', .int .i64 l', .int .i64 j'] 26)
  have HX3 := Lib.hid ((m3.block NX.out).trans tn.1)
  have HY3 := Lib.hid ((m3.block NY.out).trans tn.2)
  have HA3 := Lib.hid ((m3.block N0.out).trans ((Below.heap_alloc _ _ _ (by simp; omega)).trans ((Below.heap_alloc _ _ _ (by omega)).trans HA2.out)))
  have HC3 := Lib.hid ((m3.block N1.out).trans ((Below.heap_alloc _ _ _ (by simp; omega)).trans ((Below.heap_alloc _ _ _ (by omega)).trans HC2.out)))
  have B3 := drawn_below (Below.trans B2 (by repeat (first | (with_reducible refine Below.drew ?_) | (with_reducible refine below_drewN ?_ _) | (with_reducible refine Below.alloc ?_ ?_ _) | (with_reducible refine Below.setCell ?_ ?_ _) | (with_reducible assumption) | (with_reducible exact Below.refl _ _) | omega | (simp <;> omega)))) m3.1 (by omega)
  have s3 := m3.2.1
  simp at s3
  clear m3 HA2 HC2 tn B2
  have z1 : ¬ w.heap.size = w2.heap.size := by omega
  have z2 : ¬ w.heap.size = w2.heap.size + 1 := by omega
  have z3 : ¬ w.heap.size + 1 = w2.heap.size := by omega
  have z4 : ¬ w.heap.size + 1 = w2.heap.size + 1 := by omega
  obtain ⟨x0, x1, x2, _, _, _⟩ := blk3 HX3.out
  obtain ⟨y0, y1, y2, _, _, _⟩ := blk3 HY3.out
  go_wp2_with fail
  go_region_held3 (fun w' => w'.cell? ⟨w2.heap.size, 0, none⟩ = some (.int .i64 s) ∧ w'.cell? ⟨w2.heap.size, 1, none⟩ = some (.int .i64 l) ∧ w'.cell? ⟨w2.heap.size, 2, none⟩ = some (.int .i64 j) ∧ w'.cell? ⟨w2.heap.size + 1, 0, none⟩ = some (.int .i64 s') ∧ w'.cell? ⟨w2.heap.size + 1, 1, none⟩ = some (.int .i64 l') ∧ w'.cell? ⟨w2.heap.size + 1, 2, none⟩ = some (.int .i64 j')) (first | go_keep | exact ⟨t0, t1, t2, u0, u1, u2⟩)
    (first | (go_at_call 37; (with_reducible refine (pick_any R (0 + 20 + 1) _ _ (by repeat (first | (with_reducible assumption) | (with_reducible refine Rd.alloc ?_ _) | (with_reducible refine Rd.setCell ?_ ?_ _) | (with_reducible refine Rd.drew ?_) | omega | (simp <;> omega))) (by omega) (by omega)).mono ?_); rintro e w4 ⟨v4, v4l, v4h, rfl, m4⟩; obtain ⟨a0, a1, a2, a3, fa0, fa1, fa2, fa3⟩ := blk4 ((m4.block N0.out).trans HA3.out); obtain ⟨c0, c1, c2, c3, fc0, fc1, fc2, fc3⟩ := blk4 ((m4.block N1.out).trans HC3.out); obtain ⟨t0, t1, t2, _, _, _⟩ := blk3 ((m4.block NX.out).trans HX3.out); obtain ⟨u0, u1, u2, _, _, _⟩ := blk3 ((m4.block NY.out).trans HY3.out); have B4 := drawn_below (Below.trans B3 (by repeat (first | (with_reducible refine Below.drew ?_) | (with_reducible refine below_drewN ?_ _) | (with_reducible refine Below.alloc ?_ ?_ _) | (with_reducible refine Below.setCell ?_ ?_ _) | (with_reducible assumption) | (with_reducible exact Below.refl _ _) | omega | (simp <;> omega)))) m4.1 (by omega); clear m4))
  go_wp2
  refine bodyPost_ret (v := .tuple #[.agg #[.int .i64 s, .int .i64 l, .int .i64 j, .bool (v3 == 0)], .agg #[.int .i64 s', .int .i64 l', .int .i64 j', .bool ((v3 == 0) == (v4 == 0))]]) (by simp [results, Try.results18, go_sem, *, lt2, lt3, lt4, lt5, lt6]) rfl ⟨s, l, j, _, s', l', j', _, q1, q2, rfl, (by repeat (first | (with_reducible refine Below.drew ?_) | (with_reducible refine below_drewN ?_ _) | (with_reducible refine Below.alloc ?_ ?_ _) | (with_reducible refine Below.setCell ?_ ?_ _) | (with_reducible assumption) | (with_reducible exact Below.refl _ _) | omega | (simp <;> omega)))⟩

def SomeTerms (w : World) (e : Ending) (w' : World) : Prop :=
  ∃ (s1 l1 s2 l2 : Int), (0 ≤ s1 ∧ s1 ≤ 3 ∧ 0 ≤ l1 ∧ l1 ≤ 2) ∧ (-1 ≤ s2 ∧ s2 ≤ 9 ∧ -1 ≤ l2 ∧ l2 ≤ 9) ∧ e = .returned (.tuple #[.agg #[.int .i64 s1, .int .i64 l1], .agg #[.int .i64 s2, .int .i64 l2]]) ∧ Below w.heap.size w w'

set_option maxRecDepth 100000 in
set_option maxHeartbeats 2000000 in
theorem drawStateLines (a : Option Addr) (n c : Nat) (zs : List Int) (w : World) (h : IsRow .u8 w a n c zs) :
    Calls Try.prog 22 #[.slice a n c] w (SomeTerms w) := by
  have hrow : IsRow .u8 ((w.alloc (.cells #[.int .i64 0, .int .i64 0] 24)).alloc (.cells #[.int .i64 0, .int .i64 0] 24)) a n c zs := h.below (B := w.heap.size) (fun i hi => (Below.heap_alloc _ _ _ (by simp; omega)).trans (Below.heap_alloc _ _ _ hi)) h.lt
  have HO := Lib.hid (open_any a n c zs _ hrow)
  clear h hrow
  go_enter Try.func22, Try.ntmps22
  go_wp2_with fail
  refine HO.out.mono ?_
  rintro e w1 ⟨rfl, b1, s1, r1⟩
  have HA1 := Lib.hid ((b1.block w.heap.size (by simp; omega)).trans (two_new w (.cells #[.int .i64 0, .int .i64 0] 24) (.cells #[.int .i64 0, .int .i64 0] 24)).1)
  have HC1 := Lib.hid ((b1.block (w.heap.size + 1) (by simp)).trans (two_new w (.cells #[.int .i64 0, .int .i64 0] 24) (.cells #[.int .i64 0, .int .i64 0] 24)).2)
  have B1 : Below w.heap.size w w1 := Below.trans (by repeat (first | (with_reducible refine Below.drew ?_) | (with_reducible refine below_drewN ?_ _) | (with_reducible refine Below.alloc ?_ ?_ _) | (with_reducible refine Below.setCell ?_ ?_ _) | (with_reducible assumption) | (with_reducible exact Below.refl _ _) | omega | (simp <;> omega))) (b1.mono (by simp; omega))
  simp at s1 r1
  obtain ⟨R, hR⟩ : ∃ R, R = w.heap.size + 1 + 1 := ⟨_, rfl⟩
  simp only [World.size_alloc]
  rw [← hR] at r1 ⊢
  have n0 : w.heap.size ≠ R := by omega
  have n1 : w.heap.size + 1 ≠ R := by omega
  have N0 := Lib.hid n0
  have N1 := Lib.hid n1
  have hRl : w.heap.size + 1 < R := by omega
  clear b1 HO hR n0 n1
  go_wp2_with fail
  (with_reducible refine (l92Near R 0 _ r1 (by omega)).mono ?_)
  rintro e w2 ⟨s, l, j, s', l', j', q1, q2, rfl, g2, r2⟩
  have HA2 := Lib.hid ((g2.block _ (by omega) (fun e => N0.out (by injection e))).trans HA1.out)
  have HC2 := Lib.hid ((g2.block _ (by omega) (fun e => N1.out (by injection e))).trans HC1.out)
  have B2 := drawn_below B1 g2 (by omega)
  have s2 := g2.size
  clear HA1 HC1 g2 B1
  have nX : w2.heap.size ≠ R := by have := r2.lt; omega
  have nY : w2.heap.size + 1 ≠ R := by have := r2.lt; omega
  have NX := Lib.hid nX
  have NY := Lib.hid nY
  clear nX nY
  go_wp2_with fail
  (with_reducible refine (pick_any R (0 + 20) _ _ (by repeat (first | (with_reducible assumption) | (with_reducible refine Rd.alloc ?_ _) | (with_reducible refine Rd.setCell ?_ ?_ _) | (with_reducible refine Rd.drew ?_) | omega | (simp <;> omega))) (by omega) (by omega)).mono ?_)
  rintro e w3 ⟨v3, v3l, v3h, rfl, m3⟩
  have r3 := m3.rd
  have tn := two_new w2 (.cells #[.int .i64 s, .int .i64 l, .int .i64 j] 26) (.cells #[.int .i64 s', .int .i64 l', .int .i64 j'] 26)
  have HX3 := Lib.hid ((m3.block NX.out).trans tn.1)
  have HY3 := Lib.hid ((m3.block NY.out).trans tn.2)
  have HA3 := Lib.hid ((m3.block N0.out).trans ((Below.heap_alloc _ _ _ (by simp; omega)).trans ((Below.heap_alloc _ _ _ (by omega)).trans HA2.out)))
  have HC3 := Lib.hid ((m3.block N1.out).trans ((Below.heap_alloc _ _ _ (by simp; omega)).trans ((Below.heap_alloc _ _ _ (by omega)).trans HC2.out)))
  have B3 := drawn_below (Below.trans B2 (by repeat (first | (with_reducible refine Below.drew ?_) | (with_reducible refine below_drewN ?_ _) | (with_reducible refine Below.alloc ?_ ?_ _) | (with_reducible refine Below.setCell ?_ ?_ _) | (with_reducible assumption) | (with_reducible exact Below.refl _ _) | omega | (simp <;> omega)))) m3.1 (by omega)
  have s3 := m3.2.1
  simp at s3
  clear m3 HA2 HC2 tn B2
  have z1 : ¬ w.heap.size = w2.heap.size := by omega
  have z2 : ¬ w.heap.size = w2.heap.size + 1 := by omega
  have z3 : ¬ w.heap.size + 1 = w2.heap.size := by omega
  have z4 : ¬ w.heap.size + 1 = w2.heap.size + 1 := by omega
  obtain ⟨x0, x1, x2, _, _, _⟩ := blk3 HX3.out
  obtain ⟨y0, y1, y2, _, _, _⟩ := blk3 HY3.out
  by_cases h3 : v3 = 0
  · have h3' : (v3 == 0) = true := by simp [h3]
    go_wp2_with fail
    go_region_held3 (fun w' => w'.cell? ⟨w2.heap.size, 0, none⟩ = some (.int .i64 s) ∧ w'.cell? ⟨w2.heap.size, 1, none⟩ = some (.int .i64 l)) (first | go_keep | exact ⟨t0, t1⟩)
      (first | (go_at_call 49; (with_reducible refine (l92Term R (0 + 20 + 1) _ (by repeat (first | (with_reducible assumption) | (with_reducible refine Rd.alloc ?_ _) | (with_reducible refine Rd.setCell ?_ ?_ _) | (with_reducible refine Rd.drew ?_) | omega | (simp <;> omega))) (by omega)).mono ?_); rintro e w4 ⟨p, q, p1, p2, p3, p4, rfl, g4, r4⟩; obtain ⟨a0, a1, fa0, fa1⟩ := blk2 ((g4.block _ (by simp; omega) (fun e => N0.out (by injection e))).trans HA3.out); obtain ⟨c0, c1, fc0, fc1⟩ := blk2 ((g4.block _ (by simp; omega) (fun e => N1.out (by injection e))).trans HC3.out); obtain ⟨t0, t1, _, _, _, _⟩ := blk3 ((g4.block _ (by simp; omega) (fun e => NX.out (by injection e))).trans HX3.out); have B4 := drawn_below (Below.trans B3 (by repeat (first | (with_reducible refine Below.drew ?_) | (with_reducible refine below_drewN ?_ _) | (with_reducible refine Below.alloc ?_ ?_ _) | (with_reducible refine Below.setCell ?_ ?_ _) | (with_reducible assumption) | (with_reducible exact Below.refl _ _) | omega | (simp <;> omega)))) g4 (by omega); clear g4))
    go_wp2
    refine bodyPost_ret (v := .tuple #[.agg #[.int .i64 s, .int .i64 l], .agg #[.int .i64 p, .int .i64 q]]) (by simp [results, Try.results22, go_sem, *, lt2, lt3, lt4, lt5, lt6]) rfl ⟨s, l, p, q, ⟨by omega, by omega, by omega, by omega⟩, ⟨by omega, by omega, by omega, by omega⟩, rfl, (by repeat (first | (with_reducible refine Below.drew ?_) | (with_reducible refine below_drewN ?_ _) | (with_reducible refine Below.alloc ?_ ?_ _) | (with_reducible refine Below.setCell ?_ ?_ _) | (with_reducible assumption) | (with_reducible exact Below.refl _ _) | omega | (simp <;> omega)))⟩
  · have h3' : (v3 == 0) = false := by simp [h3]
    obtain ⟨a0, a1, fa0, fa1⟩ := blk2 HA3.out
    obtain ⟨c0, c1, fc0, fc1⟩ := blk2 HC3.out
    go_wp2_with fail
    go_region
    go_wp2
    refine bodyPost_ret (v := .tuple #[.agg #[.int .i64 s, .int .i64 l], .agg #[.int .i64 s', .int .i64 l']]) (by simp [results, Try.results22, go_sem, *, lt2, lt3, lt4, lt5, lt6]) rfl ⟨s, l, s', l', ⟨by omega, by omega, by omega, by omega⟩, ⟨by omega, by omega, by omega, by omega⟩, rfl, (by repeat (first | (with_reducible refine Below.drew ?_) | (with_reducible refine below_drewN ?_ _) | (with_reducible refine Below.alloc ?_ ?_ _) | (with_reducible refine Below.setCell ?_ ?_ _) | (with_reducible assumption) | (with_reducible exact Below.refl _ _) | omega | (simp <;> omega)))⟩

end Go.Proofs.Ythinhhfegflmmaa.DrawState
