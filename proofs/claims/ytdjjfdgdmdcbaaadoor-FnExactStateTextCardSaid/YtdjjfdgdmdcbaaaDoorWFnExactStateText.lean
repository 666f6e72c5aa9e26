/-
  The walk of the law FnExactStateText.
-/
import Derived.Test.YtdjjfdgdmdcbaaaDoorTextF
namespace Go.Proofs.YtdjjfdgdmdcbaaaDoor.WFnExactStateText
open Go.RowKit Go.Proofs.YtdjjfdgdmdcbaaaDoor.Spin Go.Proofs.YtdjjfdgdmdcbaaaDoor.Text Go.Proofs.YtdjjfdgdmdcbaaaDoor.TextF
set_option linter.unusedVariables false
set_option linter.unusedSimpArgs false
/-- the law returns true; what was there is as it was -/
def Yes (w : World) (e : Ending) (w' : World) : Prop := e = .returned (.bool true) ∧ Below w.heap.size w w'
theorem toTerm (s l : Int) (w : World) : Calls Tryd.prog 21 #[.agg #[.int .i64 s, .int .i64 l]] w (Gives (.agg #[.int .i64 s, .int .i64 l]) w) := by
  go_enter Tryd.func21, Tryd.ntmps21
  go_wp2
  refine bodyPost_ret (v := .agg #[.int .i64 s, .int .i64 l]) (by simp [results, Tryd.results21, go_sem]) rfl ⟨rfl, ?_⟩
  exact (by repeat (first | (with_reducible refine Below.drew ?_) | (with_reducible refine below_drewN ?_ _) | (with_reducible refine Below.alloc ?_ ?_ _) | (with_reducible refine Below.setCell ?_ ?_ _) | (with_reducible assumption) | (with_reducible exact Below.refl _ _) | omega | (simp <;> omega)))
theorem toLevel (s l j : Int) (w : World) : Calls Tryd.prog 13 #[.agg #[.int .i64 s, .int .i64 l, .int .i64 j]] w (Gives (.agg #[.int .i64 s, .int .i64 l, .int .i64 j]) w) := by
  go_enter Tryd.func13, Tryd.ntmps13
  go_wp2_with fail
  (with_reducible refine (toTerm _ _ _).mono ?_)
  rintro e w1 ⟨rfl, b1⟩
  have hz1 := b1.size
  obtain ⟨hc1, hf1⟩ := bcell b1
  have B1 : Below w.heap.size w w1 := Below.trans (by repeat (first | (with_reducible refine Below.drew ?_) | (with_reducible refine below_drewN ?_ _) | (with_reducible refine Below.alloc ?_ ?_ _) | (with_reducible refine Below.setCell ?_ ?_ _) | (with_reducible assumption) | (with_reducible exact Below.refl _ _) | omega | (simp <;> omega))) (b1.mono (by first | omega | (simp <;> omega)))
  (try simp at hz1)
  have hy1 : w.heap.size < w1.heap.size := by omega
  clear b1
  go_wp2
  refine bodyPost_ret (v := .agg #[.int .i64 s, .int .i64 l, .int .i64 j]) (by simp [results, Tryd.results13, go_sem, hc1]) rfl ⟨rfl, ?_⟩
  exact (by repeat (first | (with_reducible refine Below.drew ?_) | (with_reducible refine below_drewN ?_ _) | (with_reducible refine Below.alloc ?_ ?_ _) | (with_reducible refine Below.setCell ?_ ?_ _) | (with_reducible assumption) | (with_reducible exact Below.refl _ _) | omega | (simp <;> omega)))
theorem toState (s l j : Int) (o : Bool) (w : World) : Calls Tryd.prog 6 #[.agg #[.int .i64 s, .int .i64 l, .int .i64 j, .bool o]] w (Gives (.agg #[.int .i64 s, .int .i64 l, .int .i64 j, .bool o]) w) := by
  go_enter Tryd.func6, Tryd.ntmps6
  go_wp2_with fail
  (with_reducible refine (toLevel _ _ _ _).mono ?_)
  rintro e w1 ⟨rfl, b1⟩
  have hz1 := b1.size
  obtain ⟨hc1, hf1⟩ := bcell b1
  have B1 : Below w.heap.size w w1 := Below.trans (by repeat (first | (with_reducible refine Below.drew ?_) | (with_reducible refine below_drewN ?_ _) | (with_reducible refine Below.alloc ?_ ?_ _) | (with_reducible refine Below.setCell ?_ ?_ _) | (with_reducible assumption) | (with_reducible exact Below.refl _ _) | omega | (simp <;> omega))) (b1.mono (by first | omega | (simp <;> omega)))
  (try simp at hz1)
  have hy1 : w.heap.size < w1.heap.size := by omega
  clear b1
  go_wp2
  refine bodyPost_ret (v := .agg #[.int .i64 s, .int .i64 l, .int .i64 j, .bool o]) (by simp [results, Tryd.results6, go_sem, hc1]) rfl ⟨rfl, ?_⟩
  exact (by repeat (first | (with_reducible refine Below.drew ?_) | (with_reducible refine below_drewN ?_ _) | (with_reducible refine Below.alloc ?_ ?_ _) | (with_reducible refine Below.setCell ?_ ?_ _) | (with_reducible assumption) | (with_reducible exact Below.refl _ _) | omega | (simp <;> omega)))
theorem fnExactStateText (s l j : Int) (o : Bool) (w : World) (_ : (Lit.int .i64 s).wf = true) (_ : (Lit.int .i64 l).wf = true) (_ : (Lit.int .i64 j).wf = true) :
    Calls Tryd.prog 3 #[.agg #[.int .i64 s, .int .i64 l, .int .i64 j, .bool o]] w (Yes w) := by
  have HS := Lib.hid (fun W => sStateText s l j o W)
  have HI := Lib.hid (fun W => iStateText s l j o W)
  generalize stateS s l j o = A at *
  go_enter Tryd.func3, Tryd.ntmps3
  go_wp2_with fail
  (with_reducible refine (toState _ _ _ _ _).mono ?_)
  rintro e w1 ⟨rfl, b1⟩
  have hz1 := b1.size
  obtain ⟨hc1, hf1⟩ := bcell b1
  have B1 : Below w.heap.size w w1 := Below.trans (by repeat (first | (with_reducible refine Below.drew ?_) | (with_reducible refine below_drewN ?_ _) | (with_reducible refine Below.alloc ?_ ?_ _) | (with_reducible refine Below.setCell ?_ ?_ _) | (with_reducible assumption) | (with_reducible exact Below.refl _ _) | omega | (simp <;> omega))) (b1.mono (by first | omega | (simp <;> omega)))
  (try simp at hz1)
  have hy1 : w.heap.size < w1.heap.size := by omega
  clear b1
  have kc1_0_0 : w1.cell? ⟨w.heap.size, 0, none⟩ = some (.int .i64 s) := (hc1 (w.heap.size) 0 (by first | omega | (simp <;> omega))).trans (by first | (simp; done) | (simp [*]; done) | (simp [*, World.cell?_alloc_at, World.cell?_alloc_past, World.cell?_alloc_lt, lt2, lt3, lt4]; done))
  have kc1_1_0 : w1.cell? ⟨w.heap.size, 1, none⟩ = some (.int .i64 l) := (hc1 (w.heap.size) 1 (by first | omega | (simp <;> omega))).trans (by first | (simp; done) | (simp [*]; done) | (simp [*, World.cell?_alloc_at, World.cell?_alloc_past, World.cell?_alloc_lt, lt2, lt3, lt4]; done))
  have kc1_2_0 : w1.cell? ⟨w.heap.size, 2, none⟩ = some (.int .i64 j) := (hc1 (w.heap.size) 2 (by first | omega | (simp <;> omega))).trans (by first | (simp; done) | (simp [*]; done) | (simp [*, World.cell?_alloc_at, World.cell?_alloc_past, World.cell?_alloc_lt, lt2, lt3, lt4]; done))
  have kc1_3_0 : w1.cell? ⟨w.heap.size, 3, none⟩ = some (.bool o) := (hc1 (w.heap.size) 3 (by first | omega | (simp <;> omega))).trans (by first | (simp; done) | (simp [*]; done) | (simp [*, World.cell?_alloc_at, World.cell?_alloc_past, World.cell?_alloc_lt, lt2, lt3, lt4]; done))
  have hx1 : w.heap.size < w1.heap.size := by omega
  go_wp2_with fail
  (with_reducible refine (HS.out _).mono ?_)
  rintro e w2 ⟨rfl, b2⟩
  have B2 := B1.trans (b2.mono B1.size)
  have c0 := (b2.cell (p := ⟨w.heap.size, 0, none⟩) hx1).trans kc1_0_0
  have c1 := (b2.cell (p := ⟨w.heap.size, 1, none⟩) hx1).trans kc1_1_0
  have c2 := (b2.cell (p := ⟨w.heap.size, 2, none⟩) hx1).trans kc1_2_0
  have c3 := (b2.cell (p := ⟨w.heap.size, 3, none⟩) hx1).trans kc1_3_0
  clear kc1_0_0 kc1_1_0 kc1_2_0 kc1_3_0 hc1 hf1 b2 B1
  go_wp2_with fail
  (with_reducible refine (toState _ _ _ _ _).mono ?_)
  rintro e w3 ⟨rfl, b3⟩
  have B3 := B2.trans (b3.mono B2.size)
  clear b3 B2 c0 c1 c2 c3
  go_wp2_with fail
  (with_reducible refine (HI.out _).mono ?_)
  rintro e w4 ⟨rfl, b4⟩
  have B4 := B3.trans (b4.mono B3.size)
  go_wp2
  go_ret
  exact ⟨rfl, B4⟩
end Go.Proofs.YtdjjfdgdmdcbaaaDoor.WFnExactStateText
