/-
  The walks of the laws on states.
-/
import Derived.Test.YtdlioofnoibidaaSpin
namespace Go.Proofs.Ytdlioofnoibidaa.StateLaws
open Go.RowKit Go.Proofs.Ytdlioofnoibidaa.Spin

/-- a world that has grown: new blocks on top of what was there -/
theorem grow1 {w : World} {o : Obj} {w' : World} (h : Below (w.alloc o).heap.size (w.alloc o) w') : Below w.heap.size w w' := ((Below.refl w.heap.size w).alloc (Nat.le_refl _) _).trans (h.mono (by simp))

/-- the law returns true; what was there is as it was -/
def Yes (w : World) (e : Ending) (w' : World) : Prop := e = .returned (.bool true) ∧ Below w.heap.size w w'

theorem toTerm (s l : Int) (w : World) : Calls Try.prog 22 #[.agg #[.int .i64 s, .int .i64 l]] w (Gives (.agg #[.int .i64 s, .int .i64 l]) w) := by
  go_enter Try.func22, Try.ntmps22
  go_wp2
  refine bodyPost_ret (v := .agg #[.int .i64 s, .int .i64 l]) (by simp [results, Try.results22, go_sem]) rfl ⟨rfl, ?_⟩
  exact (by repeat (first | (with_reducible refine Below.drew ?_) | (with_reducible refine below_drewN ?_ _) | (with_reducible refine Below.alloc ?_ ?_ _) | (with_reducible refine Below.setCell ?_ ?_ _) | (with_reducible assumption) | (with_reducible exact Below.refl _ _) | omega | (simp <;> omega)))
theorem toLevel (s l j : Int) (w : World) : Calls Try.prog 31 #[.agg #[.int .i64 s, .int .i64 l, .int .i64 j]] w (Gives (.agg #[.int .i64 s, .int .i64 l, .int .i64 j]) w) := by
  go_enter Try.func31, Try.ntmps31
  go_wp2_with fail
  (with_reducible refine (toTerm _ _ _).mono ?_)
  rintro e w1 ⟨rfl, b1⟩
  have hz1 := b1.size
  obtain ⟨hc1, hf1⟩ := bcell b1
  have B1 : Below w.heap.size w w1 := Below.trans (by repeat (first | (with_reducible refine Below.drew ?_) | (with_reducible refine below_drewN ?_ _) | (with_reducible refine Below.alloc ?_ ?_ _) | (with_reducible refine Below.setCell ?_ ?_ _) | (with_reducible assumption) | (with_reducible exact Below.refl _ _) | omega | (simp <;> omega))) (b1.mono (by first | omega | (simp <;> omega)))
  (try simp at hz1)
  have hy1 : w.heap.size < w1.heap.size := by omega
  clear b1
  go_wp2
  refine bodyPost_ret (v := .agg #[.int .i64 s, .int .i64 l, .int .i64 j]) (by simp [results, Try.results31, go_sem, hc1]) rfl ⟨rfl, ?_⟩
  exact (by repeat (first | (with_reducible refine Below.drew ?_) | (with_reducible refine below_drewN ?_ _) | (with_reducible refine Below.alloc ?_ ?_ _) | (with_reducible refine Below.setCell ?_ ?_ _) | (with_reducible assumption) | (with_reducible exact Below.refl _ _) | omega | (simp <;> omega)))
theorem toState (s l j : Int) (o : Bool) (w : World) : Calls Try.prog 13 #[.agg #[.int .i64 s, .int .i64 l, .int .i64 j, .bool o]] w (Gives (.agg #[.int .i64 s, .int .i64 l, .int .i64 j, .bool o]) w) := by
  go_enter Try.func13, Try.ntmps13
  go_wp2_with fail
  (with_reducible refine (toLevel _ _ _ _).mono ?_)
  rintro e w1 ⟨rfl, b1⟩
  have hz1 := b1.size
  obtain ⟨hc1, hf1⟩ := bcell b1
  have B1 : Below w.heap.size w w1 := Below.trans (by repeat (first | (with_reducible refine Below.drew ?_) | (with_reducible refine below_drewN ?_ _) | (with_reducible refine Below.alloc ?_ ?_ _) | (with_reducible refine Below.setCell ?_ ?_ _) | (with_reducible assumption) | (with_reducible exact Below.refl _ _) | omega | (simp <;> omega))) (b1.mono (by first | omega | (simp <;> omega)))
  (try simp at hz1)
  have hy1 : w.heap.size < w1.heap.size := by omega
  clear b1
  go_wp2
  refine bodyPost_ret (v := .agg #[.int .i64 s, .int .i64 l, .int .i64 j, .bool o]) (by simp [results, Try.results13, go_sem, hc1]) rfl ⟨rfl, ?_⟩
  exact (by repeat (first | (with_reducible refine Below.drew ?_) | (with_reducible refine below_drewN ?_ _) | (with_reducible refine Below.alloc ?_ ?_ _) | (with_reducible refine Below.setCell ?_ ?_ _) | (with_reducible assumption) | (with_reducible exact Below.refl _ _) | omega | (simp <;> omega)))
theorem fnExactStateValid (s l j : Int) (o : Bool) (w : World) (_ : (Lit.int .i64 s).wf = true) (_ : (Lit.int .i64 l).wf = true) (_ : (Lit.int .i64 j).wf = true) :
    Calls Try.prog 3 #[.agg #[.int .i64 s, .int .i64 l, .int .i64 j, .bool o]] w (Yes w) := by
  go_enter Try.func3, Try.ntmps3
  go_wp2_with fail
  (with_reducible refine (toState _ _ _ _ _).mono ?_)
  rintro e w1 ⟨rfl, b1⟩
  have hz1 := b1.size
  obtain ⟨hc1, hf1⟩ := bcell b1
  have B1 : Below w.heap.size w w1 := Below.trans (by repeat (first | (with_reducible refine Below.drew ?_) | (with_reducible refine below_drewN ?_ _) | (with_reducible refine Below.alloc ?_ ?_ _) | (with_reducible refine Below.setCell ?_ ?_ _) | (with_reducible assumption) | (with_reducible exact Below.refl _ _) | omega | (simp <;> omega))) (b1.mono (by first | omega | (simp <;> omega)))
  (try simp at hz1)
  have hy1 : w.heap.size < w1.heap.size := by omega
  clear b1
  go_wp2_with fail
  (with_reducible refine (sStateValid _ _ _ _ _).mono ?_)
  rintro e w2 ⟨rfl, b2⟩
  have hz2 := b2.size
  obtain ⟨hc2, hf2⟩ := bcell b2
  have B2 : Below w.heap.size w w2 := Below.trans (by repeat (first | (with_reducible refine Below.drew ?_) | (with_reducible refine below_drewN ?_ _) | (with_reducible refine Below.alloc ?_ ?_ _) | (with_reducible refine Below.setCell ?_ ?_ _) | (with_reducible assumption) | (with_reducible exact Below.refl _ _) | omega | (simp <;> omega))) (b2.mono (by first | omega | (simp <;> omega)))
  (try simp at hz2)
  have hy2 : w.heap.size < w2.heap.size := by omega
  clear b2
  go_wp2_with fail
  (with_reducible refine (toState _ _ _ _ _).mono ?_)
  rintro e w3 ⟨rfl, b3⟩
  have hz3 := b3.size
  obtain ⟨hc3, hf3⟩ := bcell b3
  have B3 : Below w.heap.size w w3 := Below.trans (by repeat (first | (with_reducible refine Below.drew ?_) | (with_reducible refine below_drewN ?_ _) | (with_reducible refine Below.alloc ?_ ?_ _) | (with_reducible refine Below.setCell ?_ ?_ _) | (with_reducible assumption) | (with_reducible exact Below.refl _ _) | omega | (simp <;> omega))) (b3.mono (by first | omega | (simp <;> omega)))
  (try simp at hz3)
  have hy3 : w.heap.size < w3.heap.size := by omega
  clear b3
  go_wp2_with fail
  (with_reducible refine (iStateValid _ _ _ _ _).mono ?_)
  rintro e w4 ⟨rfl, b4⟩
  have hz4 := b4.size
  obtain ⟨hc4, hf4⟩ := bcell b4
  have B4 : Below w.heap.size w w4 := Below.trans (by repeat (first | (with_reducible refine Below.drew ?_) | (with_reducible refine below_drewN ?_ _) | (with_reducible refine Below.alloc ?_ ?_ _) | (with_reducible refine Below.setCell ?_ ?_ _) | (with_reducible assumption) | (with_reducible exact Below.refl _ _) | omega | (simp <;> omega))) (b4.mono (by first | omega | (simp <;> omega)))
  (try simp at hz4)
  have hy4 : w.heap.size < w4.heap.size := by omega
  clear b4
  go_wp2
  go_ret
  exact ⟨rfl, (by repeat (first | (with_reducible refine Below.drew ?_) | (with_reducible refine below_drewN ?_ _) | (with_reducible refine Below.alloc ?_ ?_ _) | (with_reducible refine Below.setCell ?_ ?_ _) | (with_reducible assumption) | (with_reducible exact Below.refl _ _) | omega | (simp <;> omega)))⟩
end Go.Proofs.Ytdlioofnoibidaa.StateLaws
