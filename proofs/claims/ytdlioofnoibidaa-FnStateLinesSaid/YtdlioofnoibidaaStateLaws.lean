/-
  The walks of the laws on states.
-/
import Derived.Test.YtdlioofnoibidaaSpin
import Derived.Test.YtdlioofnoibidaaAllowed
import Derived.Deep.RegionHeld3
namespace Go.Proofs.Ytdlioofnoibidaa.StateLaws
open Go.RowKit Go.Proofs.Ytdlioofnoibidaa.Spin Go.Proofs.Ytdlioofnoibidaa.Allowed
set_option linter.unusedVariables false
set_option linter.unusedSimpArgs false

/-- a world that has grown: new blocks on top of what was there -/
theorem grow1 {w : World} {o : Obj} {w' : World} (h : Below (w.alloc o).heap.size (w.alloc o) w') : Below w.heap.size w w' := ((Below.refl w.heap.size w).alloc (Nat.le_refl _) _).trans (h.mono (by simp))

/-- the law returns true; what was there is as it was -/
def Yes (w : World) (e : Ending) (w' : World) : Prop := e = .returned (.bool true) ∧ Below w.heap.size w w'

theorem toTerm (s l : Int) (w : World) : Calls Try.prog 22 #[.agg #[.int .i64 s, .int .i64 l]] w (Gives (.agg #[.int .i64 s, .int .i64 l]) w) := by
  go_enter Try.func22, Try.ntmps22
  go_wp2
  refine bodyPost_ret (v := .agg #[.int .i64 s, .int .i64 l]) (by simp [results, Try.results22, go_sem]) rfl ⟨rfl, ?_⟩
  exact (by repeat (first | (with_reducible refine Below.drew ?_) | (with_reducible refine below_drewN ?_ _) | (with_reducible refine Below.alloc ?_ ?_ _) | (with_reducible refine Below.setCell ?_ ?_ _) | (with_reducible assumption) | (with_reducible exact Below.refl _ _) | omega | (simp <;> omega)))
theorem toLevel (s l j : Int) (w : World) : Calls Try.prog 31 #[.agg #[.int .i64 s, .int .i64 l, .int .i64 j]] w (Gives (.agg #[.int .i64 s, .int .i64 l, .int .i64 j]) w) := by
  go_enter Try.func31, Try.ntmps31
  go_wp2_with fail
  (with_reducible refine (toTerm _ _ _).mono ?_)
  rintro e w1 ⟨rfl, b1⟩
  have hz1 := b1.size
  obtain ⟨hc1, hf1⟩ := bcell b1
  have B1 : Below w.heap.size w w1 := Below.trans (by repeat (first | (with_reducible refine Below.drew ?_) | (with_reducible refine below_drewN ?_ _) | (with_reducible refine Below.alloc ?_ ?_ _) | (with_reducible refine Below.setCell ?_ ?_ _) | (with_reducible assumption) | (with_reducible exact Below.refl _ _) | omega | (simp <;> omega))) (b1.mono (by first | omega | (simp <;> omega)))
  (try simp at hz1)
  have hy1 : w.heap.size < w1.heap.size := by omega
  clear b1
  go_wp2
  refine bodyPost_ret (v := .agg #[.int .i64 s, .int .i64 l, .int .i64 j]) (by simp [results, Try.results31, go_sem, hc1]) rfl ⟨rfl, ?_⟩
  exact (by repeat (first | (with_reducible refine Below.drew ?_) | (with_reducible refine below_drewN ?_ _) | (with_reducible refine Below.alloc ?_ ?_ _) | (with_reducible refine Below.setCell ?_ ?_ _) | (with_reducible assumption) | (with_reducible exact Below.refl _ _) | omega | (simp <;> omega)))
theorem toState (s l j : Int) (o : Bool) (w : World) : Calls Try.prog 13 #[.agg #[.int .i64 s, .int .i64 l, .int .i64 j, .bool o]] w (Gives (.agg #[.int .i64 s, .int .i64 l, .int .i64 j, .bool o]) w) := by
  go_enter Try.func13, Try.ntmps13
  go_wp2_with fail
  (with_reducible refine (toLevel _ _ _ _).mono ?_)
  rintro e w1 ⟨rfl, b1⟩
  have hz1 := b1.size
  obtain ⟨hc1, hf1⟩ := bcell b1
  have B1 : Below w.heap.size w w1 := Below.trans (by repeat (first | (with_reducible refine Below.drew ?_) | (with_reducible refine below_drewN ?_ _) | (with_reducible refine Below.alloc ?_ ?_ _) | (with_reducible refine Below.setCell ?_ ?_ _) | (with_reducible assumption) | (with_reducible exact Below.refl _ _) | omega | (simp <;> omega))) (b1.mono (by first | omega | (simp <;> omega)))
  (try simp at hz1)
  have hy1 : w.heap.size < w1.heap.size := by omega
  clear b1
  go_wp2
  refine bodyPost_ret (v := .agg #[.int .i64 s, .int .i64 l, .int .i64 j, .bool o]) (by simp [results, Try.results13, go_sem, hc1]) rfl ⟨rfl, ?_⟩
  exact (by repeat (first | (with_reducible refine Below.drew ?_) | (with_reducible refine below_drewN ?_ _) | (with_reducible refine Below.alloc ?_ ?_ _) | (with_reducible refine Below.setCell ?_ ?_ _) | (with_reducible assumption) | (with_reducible exact Below.refl _ _) | omega | (simp <;> omega)))
theorem fnExactStateValid (s l j : Int) (o : Bool) (w : World) (_ : (Lit.int .i64 s).wf = true) (_ : (Lit.int .i64 l).wf = true) (_ : (Lit.int .i64 j).wf = true) :
    Calls Try.prog 3 #[.agg #[.int .i64 s, .int .i64 l, .int .i64 j, .bool o]] w (Yes w) := by
  go_enter Try.func3, Try.ntmps3
  go_wp2_with fail
  (with_reducible refine (toState _ _ _ _ _).mono ?_)
  rintro e w1 ⟨rfl, b1⟩
  have hz1 := b1.size
  obtain ⟨hc1, hf1⟩ := bcell b1
  have B1 : Below w.heap.size w w1 := Below.trans (by repeat (first | (with_reducible refine Below.drew ?_) | (with_reducible refine below_drewN ?_ _) | (with_reducible refine Below.alloc ?_ ?_ _) | (with_reducible refine Below.setCell ?_ ?_ _) | (with_reducible assumption) | (with_reducible exact Below.refl _ _) | omega | (simp <;> omega))) (b1.mono (by first | omega | (simp <;> omega)))
  (try simp at hz1)
  have hy1 : w.heap.size < w1.heap.size := by omega
  clear b1
  go_wp2_with fail
  (with_reducible refine (sStateValid _ _ _ _ _).mono ?_)
  rintro e w2 ⟨rfl, b2⟩
  have hz2 := b2.size
  obtain ⟨hc2, hf2⟩ := bcell b2
  have B2 : Below w.heap.size w w2 := Below.trans (by repeat (first | (with_reducible refine Below.drew ?_) | (with_reducible refine below_drewN ?_ _) | (with_reducible refine Below.alloc ?_ ?_ _) | (with_reducible refine Below.setCell ?_ ?_ _) | (with_reducible assumption) | (with_reducible exact Below.refl _ _) | omega | (simp <;> omega))) (b2.mono (by first | omega | (simp <;> omega)))
  (try simp at hz2)
  have hy2 : w.heap.size < w2.heap.size := by omega
  clear b2
  go_wp2_with fail
  (with_reducible refine (toState _ _ _ _ _).mono ?_)
  rintro e w3 ⟨rfl, b3⟩
  have hz3 := b3.size
  obtain ⟨hc3, hf3⟩ := bcell b3
  have B3 : Below w.heap.size w w3 := Below.trans (by repeat (first | (with_reducible refine Below.drew ?_) | (with_reducible refine below_drewN ?_ _) | (with_reducible refine Below.alloc ?_ ?_ _) | (with_reducible refine Below.setCell ?_ ?_ _) | (with_reducible assumption) | (with_reducible exact Below.refl _ _) | omega | (simp <;> omega))) (b3.mono (by first | omega | (simp <;> omega)))
  (try simp at hz3)
  have hy3 : w.heap.size < w3.heap.size := by omega
  clear b3
  go_wp2_with fail
  (with_reducible refine (iStateValid _ _ _ _ _).mono ?_)
  rintro e w4 ⟨rfl, b4⟩
  have hz4 := b4.size
  obtain ⟨hc4, hf4⟩ := bcell b4
  have B4 : Below w.heap.size w w4 := Below.trans (by repeat (first | (with_reducible refine Below.drew ?_) | (with_reducible refine below_drewN ?_ _) | (with_reducible refine Below.alloc ?_ ?_ _) | (with_reducible refine Below.setCell ?_ ?_ _) | (with_reducible assumption) | (with_reducible exact Below.refl _ _) | omega | (simp <;> omega))) (b4.mono (by first | omega | (simp <;> omega)))
  (try simp at hz4)
  have hy4 : w.heap.size < w4.heap.size := by omega
  clear b4
  go_wp2
  go_ret
  exact ⟨rfl, (by repeat (first | (with_reducible refine Below.drew ?_) | (with_reducible refine below_drewN ?_ _) | (with_reducible refine Below.alloc ?_ ?_ _) | (with_reducible refine Below.setCell ?_ ?_ _) | (with_reducible assumption) | (with_reducible exact Below.refl _ _) | omega | (simp <;> omega)))⟩
theorem two_keep {w W W' : World} {B : Nat} {a0 a1 a2 a3 b0 b1 b2 b3 : Value} (h : W.cell? ⟨B, 0, none⟩ = some a0 ∧ W.cell? ⟨B, 1, none⟩ = some a1 ∧ W.cell? ⟨B, 2, none⟩ = some a2 ∧ W.cell? ⟨B, 3, none⟩ = some a3 ∧ W.cell? ⟨B + 1, 0, none⟩ = some b0 ∧ W.cell? ⟨B + 1, 1, none⟩ = some b1 ∧ W.cell? ⟨B + 1, 2, none⟩ = some b2 ∧ W.cell? ⟨B + 1, 3, none⟩ = some b3 ∧ B + 1 < W.heap.size ∧ Below w.heap.size w W) (hb : Below W.heap.size W W') : W'.cell? ⟨B, 0, none⟩ = some a0 ∧ W'.cell? ⟨B, 1, none⟩ = some a1 ∧ W'.cell? ⟨B, 2, none⟩ = some a2 ∧ W'.cell? ⟨B, 3, none⟩ = some a3 ∧ W'.cell? ⟨B + 1, 0, none⟩ = some b0 ∧ W'.cell? ⟨B + 1, 1, none⟩ = some b1 ∧ W'.cell? ⟨B + 1, 2, none⟩ = some b2 ∧ W'.cell? ⟨B + 1, 3, none⟩ = some b3 ∧ B + 1 < W'.heap.size ∧ Below w.heap.size w W' := by
  obtain ⟨h0, h1, h2, h3, g0, g1, g2, g3, hz, hB⟩ := h
  have k : ∀ b o, b < W.heap.size → W'.cell? ⟨b, o, none⟩ = W.cell? ⟨b, o, none⟩ := fun b o h => hb.cell (p := ⟨b, o, none⟩) h
  exact ⟨(k _ _ (by omega)).trans h0, (k _ _ (by omega)).trans h1, (k _ _ (by omega)).trans h2, (k _ _ (by omega)).trans h3, (k _ _ (by omega)).trans g0, (k _ _ (by omega)).trans g1, (k _ _ (by omega)).trans g2, (k _ _ (by omega)).trans g3, Nat.lt_of_lt_of_le hz hb.size, hB.trans (hb.mono hB.size)⟩

set_option maxHeartbeats 1000000 in
theorem fnExactStateAllowed (s1 l1 j1 : Int) (o1 : Bool) (s2 l2 j2 : Int) (o2 : Bool) (w : World) (_ : (Lit.int .i64 s1).wf = true) (_ : (Lit.int .i64 l1).wf = true) (_ : (Lit.int .i64 j1).wf = true) (_ : (Lit.int .i64 s2).wf = true) (_ : (Lit.int .i64 l2).wf = true) (_ : (Lit.int .i64 j2).wf = true) :
    Calls Try.prog 4 #[.agg #[.int .i64 s1, .int .i64 l1, .int .i64 j1, .bool o1], .agg #[.int .i64 s2, .int .i64 l2, .int .i64 j2, .bool o2]] w (Yes w) := by
  go_enter Try.func4, Try.ntmps4
  go_wp2_with fail
  go_region_held3 (fun w' => w'.cell? ⟨w.heap.size, 0, none⟩ = some (.int .i64 s1) ∧ w'.cell? ⟨w.heap.size, 1, none⟩ = some (.int .i64 l1) ∧ w'.cell? ⟨w.heap.size, 2, none⟩ = some (.int .i64 j1) ∧ w'.cell? ⟨w.heap.size, 3, none⟩ = some (.bool o1) ∧ w'.cell? ⟨w.heap.size + 1, 0, none⟩ = some (.int .i64 s2) ∧ w'.cell? ⟨w.heap.size + 1, 1, none⟩ = some (.int .i64 l2) ∧ w'.cell? ⟨w.heap.size + 1, 2, none⟩ = some (.int .i64 j2) ∧ w'.cell? ⟨w.heap.size + 1, 3, none⟩ = some (.bool o2) ∧ w.heap.size + 1 < w'.heap.size ∧ Below w.heap.size w w') (first | exact two_keep (by assumption) (by assumption) | exact ⟨by simp, by simp, by simp, by simp, by simp, by simp, by simp, by simp, by simp, (by repeat (first | (with_reducible refine Below.drew ?_) | (with_reducible refine below_drewN ?_ _) | (with_reducible refine Below.alloc ?_ ?_ _) | (with_reducible refine Below.setCell ?_ ?_ _) | (with_reducible assumption) | (with_reducible exact Below.refl _ _) | omega | (simp <;> omega)))⟩)
    (first | (go_at_call 13; (with_reducible refine (toState _ _ _ _ _).mono ?_); rintro e w1 ⟨rfl, b1⟩) | (go_at_call 15; (with_reducible refine (sStateAllowed _ _ _ _ _ _ _ _ _).mono ?_); rintro e w1 ⟨rfl, b1⟩))
  go_wp2_with fail
  go_region_held3 (fun w' => w'.cell? ⟨w.heap.size, 0, none⟩ = some (.int .i64 s1) ∧ w'.cell? ⟨w.heap.size, 1, none⟩ = some (.int .i64 l1) ∧ w'.cell? ⟨w.heap.size, 2, none⟩ = some (.int .i64 j1) ∧ w'.cell? ⟨w.heap.size, 3, none⟩ = some (.bool o1) ∧ w'.cell? ⟨w.heap.size + 1, 0, none⟩ = some (.int .i64 s2) ∧ w'.cell? ⟨w.heap.size + 1, 1, none⟩ = some (.int .i64 l2) ∧ w'.cell? ⟨w.heap.size + 1, 2, none⟩ = some (.int .i64 j2) ∧ w'.cell? ⟨w.heap.size + 1, 3, none⟩ = some (.bool o2) ∧ w.heap.size + 1 < w'.heap.size ∧ Below w.heap.size w w') (first | exact two_keep (by assumption) (by assumption) | exact two_keep (by assumption) (Below.drew (Below.refl _ _)))
    (first | (go_at_call 13; (with_reducible refine (toState _ _ _ _ _).mono ?_); rintro e w1 ⟨rfl, b1⟩) | (go_at_call 16; (with_reducible refine (iStateAllowed _ _ _ _ _ _ _ _ _).mono ?_); rintro e w1 ⟨rfl, b1⟩))
  rename_i hS
  go_wp2
  go_ret
  exact ⟨rfl, hS.2.2.2.2.2.2.2.2.2⟩

end Go.Proofs.Ytdlioofnoibidaa.StateLaws
