/-
  The draw of a state, out of a code.
-/
import Derived.Test.YtdjjfdgdmdcbaaaDoorDrawTerm
import Derived.RegionTactic
namespace Go.Proofs.YtdjjfdgdmdcbaaaDoor.DrawText
open Go.RowKit Go.Proofs.YtdjjfdgdmdcbaaaDoor.Spin Go.Proofs.YtdjjfdgdmdcbaaaDoor.Row Go.Proofs.YtdjjfdgdmdcbaaaDoor.Coupled Go.Proofs.YtdjjfdgdmdcbaaaDoor.Rd Go.Proofs.YtdjjfdgdmdcbaaaDoor.DrawTerm
set_option linter.unusedVariables false
set_option linter.unusedSimpArgs false

theorem blk4 {w : World} {b : Nat} {x y z u : Value} {t : TypeId} (h : w.heap[b]? = some (.cells #[x, y, z, u] t (0, 0))) :
    w.cell? ⟨b, 0, none⟩ = some x ∧ w.cell? ⟨b, 1, none⟩ = some y ∧ w.cell? ⟨b, 2, none⟩ = some z ∧ w.cell? ⟨b, 3, none⟩ = some u ∧ w.frozen? ⟨b, 0, none⟩ = false ∧ w.frozen? ⟨b, 1, none⟩ = false ∧ w.frozen? ⟨b, 2, none⟩ = false ∧ w.frozen? ⟨b, 3, none⟩ = false := by
  refine ⟨?_, ?_, ?_, ?_, ?_, ?_, ?_, ?_⟩ <;> simp [World.cell?, World.frozen?, h]
theorem blk3' {w : World} {b : Nat} {x y z : Value} {t : TypeId} (h : w.heap[b]? = some (.cells #[x, y, z] t (0, 0))) :
    w.cell? ⟨b, 0, none⟩ = some x ∧ w.cell? ⟨b, 1, none⟩ = some y ∧ w.cell? ⟨b, 2, none⟩ = some z := by
  refine ⟨?_, ?_, ?_⟩ <;> simp [World.cell?, h]
theorem drawn_below {w W w' : World} {R : Nat} (hB : Below w.heap.size w W) (hg : W.grownBy w' (some R)) (hR : w.heap.size ≤ R) : Below w.heap.size w w' :=
  below_only hB hg hB.size (fun g h => by cases h; exact hR)
/-- some state is returned -/
def SomeState (w : World) (e : Ending) (w' : World) : Prop :=
  ∃ (s l j : Int) (o : Bool), e = .returned (.agg #[.int .i64 s, .int .i64 l, .int .i64 j, .bool o]) ∧ Below w.heap.size w w'
set_option maxRecDepth 100000 in
set_option maxHeartbeats 2000000 in
theorem drawStateValid (a : Option Addr) (n c : Nat) (zs : List Int) (w : World) (h : IsRow .u8 w a n c zs) :
    Calls Tryd.prog 14 #[.slice a n c] w (SomeState w) := by
  have hrow : IsRow .u8 (w.alloc (.cells #[.int .i64 0, .int .i64 0, .int .i64 0, .bool false] 33)) a n c zs := h.below (fun i hi => Below.heap_alloc _ _ _ hi) h.lt
  have HO := Lib.hid (open_any a n c zs _ hrow)
  clear h hrow
  go_enter Tryd.func14, Tryd.ntmps14
  go_wp2_with fail
  refine HO.out.mono ?_
  rintro e w1 ⟨rfl, b1, s1, r1⟩
  have HA1 := Lib.hid ((b1.block w.heap.size (by simp)).trans (heap_alloc_new w (.cells #[.int .i64 0, .int .i64 0, .int .i64 0, .bool false] 33)))
  have B1 : Below w.heap.size w w1 := Below.trans (by repeat (first | (with_reducible refine Below.drew ?_) | (with_reducible refine below_drewN ?_ _) | (with_reducible refine Below.alloc ?_ ?_ _) | (with_reducible refine Below.setCell ?_ ?_ _) | (with_reducible assumption) | (with_reducible exact Below.refl _ _) | omega | (simp <;> omega))) (b1.mono (by simp))
  simp at s1 r1
  obtain ⟨R, hR⟩ : ∃ R, R = w.heap.size + 1 := ⟨_, rfl⟩
  simp only [World.size_alloc]
  rw [← hR] at r1 ⊢
  have n0 : w.heap.size ≠ R := by omega
  have N0 := Lib.hid n0
  have hRl : w.heap.size < R := by omega
  clear b1 HO hR n0
  go_wp2_with fail
  (with_reducible refine (l92Level R 0 _ r1 (by omega)).mono ?_)
  rintro e w2 ⟨s, l, j, q1, q2, q3, q4, q5, q6, rfl, g2, r2⟩
  have HA2 := Lib.hid ((g2.block _ (by omega) (fun e => N0.out (by injection e))).trans HA1.out)
  have B2 := drawn_below B1 g2 (by omega)
  have s2 := g2.size
  clear HA1 g2 B1
  go_wp2_with fail
  have ne : w2.heap.size ≠ R := by have := r2.lt; omega
  have NE := Lib.hid ne
  have zz : ¬ w.heap.size = w2.heap.size := by omega
  clear ne
  go_region_held3 (fun w' => w'.cell? ⟨w2.heap.size, 0, none⟩ = some (.int .i64 s) ∧ w'.cell? ⟨w2.heap.size, 1, none⟩ = some (.int .i64 l) ∧ w'.cell? ⟨w2.heap.size, 2, none⟩ = some (.int .i64 j)) (first | go_keep | exact ⟨t0, t1, t2⟩)
    (first | (go_at_call 24; (with_reducible refine (pick_any R (0 + 10) _ _ (by repeat (first | (with_reducible assumption) | (with_reducible refine Rd.alloc ?_ _) | (with_reducible refine Rd.setCell ?_ ?_ _) | (with_reducible refine Rd.drew ?_) | omega | (simp <;> omega))) (by omega) (by omega)).mono ?_); rintro e w3 ⟨v3, v3l, v3h, rfl, m3⟩; obtain ⟨a0, a1, a2, a3, fa0, fa1, fa2, fa3⟩ := blk4 ((m3.block N0.out).trans ((Below.heap_alloc w2 _ w.heap.size (by omega)).trans HA2.out)); obtain ⟨t0, t1, t2⟩ := blk3' ((m3.block NE.out).trans (heap_alloc_new w2 _)); have B3 := drawn_below (Below.trans B2 (by repeat (first | (with_reducible refine Below.drew ?_) | (with_reducible refine below_drewN ?_ _) | (with_reducible refine Below.alloc ?_ ?_ _) | (with_reducible refine Below.setCell ?_ ?_ _) | (with_reducible assumption) | (with_reducible exact Below.refl _ _) | omega | (simp <;> omega)))) m3.1 (by omega); clear m3))
  go_wp2
  refine bodyPost_ret (v := .agg #[.int .i64 s, .int .i64 l, .int .i64 j, .bool (v3 == 0)]) (by simp [results, Tryd.results14, go_sem, *, lt2, lt3, lt4, lt5, lt6]) rfl ⟨s, l, j, _, rfl, (by repeat (first | (with_reducible refine Below.drew ?_) | (with_reducible refine below_drewN ?_ _) | (with_reducible refine Below.alloc ?_ ?_ _) | (with_reducible refine Below.setCell ?_ ?_ _) | (with_reducible assumption) | (with_reducible exact Below.refl _ _) | omega | (simp <;> omega)))⟩
theorem drawStateText (a : Option Addr) (n c : Nat) (zs : List Int) (w : World) (h : IsRow .u8 w a n c zs) :
    Calls Tryd.prog 8 #[.slice a n c] w (SomeState w) := by
  have hrow : IsRow .u8 (w.alloc (.cells #[.int .i64 0, .int .i64 0, .int .i64 0, .bool false] 33)) a n c zs := h.below (fun i hi => Below.heap_alloc _ _ _ hi) h.lt
  have HO := Lib.hid (drawStateValid a n c zs _ hrow)
  clear h hrow
  go_enter Tryd.func8, Tryd.ntmps8
  go_wp2_with fail
  refine HO.out.mono ?_
  rintro e w1 ⟨s, l, j, o, rfl, b1⟩
  have B1 : Below w.heap.size w w1 := Below.trans (by repeat (first | (with_reducible refine Below.drew ?_) | (with_reducible refine below_drewN ?_ _) | (with_reducible refine Below.alloc ?_ ?_ _) | (with_reducible refine Below.setCell ?_ ?_ _) | (with_reducible assumption) | (with_reducible exact Below.refl _ _) | omega | (simp <;> omega))) (b1.mono (by simp))
  obtain ⟨fa0, fa1, fa2, fa3⟩ : w1.frozen? ⟨w.heap.size, 0, none⟩ = false ∧ w1.frozen? ⟨w.heap.size, 1, none⟩ = false ∧ w1.frozen? ⟨w.heap.size, 2, none⟩ = false ∧ w1.frozen? ⟨w.heap.size, 3, none⟩ = false := by
    obtain ⟨_, _, _, _, h0, h1, h2, h3⟩ := blk4 ((b1.block w.heap.size (by simp)).trans (heap_alloc_new w (.cells #[.int .i64 0, .int .i64 0, .int .i64 0, .bool false] 33)))
    exact ⟨h0, h1, h2, h3⟩
  obtain ⟨c0, c1, c2, c3, _, _, _, _⟩ := blk4 ((b1.block w.heap.size (by simp)).trans (heap_alloc_new w (.cells #[.int .i64 0, .int .i64 0, .int .i64 0, .bool false] 33)))
  clear b1
  go_wp2
  refine bodyPost_ret (v := .agg #[.int .i64 s, .int .i64 l, .int .i64 j, .bool o]) (by simp [results, Tryd.results8, go_sem, *, lt2, lt3, lt4, lt5, lt6]) rfl ⟨s, l, j, o, rfl, (by repeat (first | (with_reducible refine Below.drew ?_) | (with_reducible refine below_drewN ?_ _) | (with_reducible refine Below.alloc ?_ ?_ _) | (with_reducible refine Below.setCell ?_ ?_ _) | (with_reducible assumption) | (with_reducible exact Below.refl _ _) | omega | (simp <;> omega)))⟩
end Go.Proofs.YtdjjfdgdmdcbaaaDoor.DrawText
