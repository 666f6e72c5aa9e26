/-
  The walks of the laws on the number of lines between two terms.
-/
import Derived.Test.YtdlioofnoibidaaLinesPlain
import Derived.Test.YtdlioofnoibidaaStateLaws
import Derived.Test.YtdlioofnoibidaaDrawState
namespace Go.Proofs.Ytdlioofnoibidaa.LinesLaws
open Go.RowKit Go.Proofs.Ytdlioofnoibidaa.Spin Go.Proofs.Ytdlioofnoibidaa.Row Go.Proofs.Ytdlioofnoibidaa.Rd Go.Proofs.Ytdlioofnoibidaa.Coupled Go.Proofs.Ytdlioofnoibidaa.States Go.Proofs.Ytdlioofnoibidaa.LinesCount Go.Proofs.Ytdlioofnoibidaa.LinesPlain Go.Proofs.Ytdlioofnoibidaa.StateLaws Go.Proofs.Ytdlioofnoibidaa.DrawState
set_option linter.unusedVariables false
set_option linter.unusedSimpArgs false

theorem keep2 {w W W' : World} {B : Nat} {a0 a1 b0 b1 : Value} (h : W.cell? ⟨B, 0, none⟩ = some a0 ∧ W.cell? ⟨B, 1, none⟩ = some a1 ∧ W.cell? ⟨B + 1, 0, none⟩ = some b0 ∧ W.cell? ⟨B + 1, 1, none⟩ = some b1 ∧ B + 1 < W.heap.size ∧ Below w.heap.size w W) (hb : Below W.heap.size W W') : W'.cell? ⟨B, 0, none⟩ = some a0 ∧ W'.cell? ⟨B, 1, none⟩ = some a1 ∧ W'.cell? ⟨B + 1, 0, none⟩ = some b0 ∧ W'.cell? ⟨B + 1, 1, none⟩ = some b1 ∧ B + 1 < W'.heap.size ∧ Below w.heap.size w W' := by
  obtain ⟨h0, h1, g0, g1, hz, hB⟩ := h
  have k : ∀ b o, b < W.heap.size → W'.cell? ⟨b, o, none⟩ = W.cell? ⟨b, o, none⟩ := fun b o h => hb.cell (p := ⟨b, o, none⟩) h
  exact ⟨(k _ _ (by omega)).trans h0, (k _ _ (by omega)).trans h1, (k _ _ (by omega)).trans g0, (k _ _ (by omega)).trans g1, Nat.lt_of_lt_of_le hz hb.size, hB.trans (hb.mono hB.size)⟩

set_option maxHeartbeats 1000000 in
theorem fnExactStateLines (s1 l1 s2 l2 : Int) (w : World) (_ : (Lit.int .i64 s1).wf = true) (_ : (Lit.int .i64 l1).wf = true) (_ : (Lit.int .i64 s2).wf = true) (_ : (Lit.int .i64 l2).wf = true) :
    Calls Try.prog 10 #[.agg #[.int .i64 s1, .int .i64 l1], .agg #[.int .i64 s2, .int .i64 l2]] w (Yes w) := by
  go_enter Try.func10, Try.ntmps10
  go_wp2_with fail
  go_region_held3 (fun w' => w'.cell? ⟨w.heap.size, 0, none⟩ = some (.int .i64 s1) ∧ w'.cell? ⟨w.heap.size, 1, none⟩ = some (.int .i64 l1) ∧ w'.cell? ⟨w.heap.size + 1, 0, none⟩ = some (.int .i64 s2) ∧ w'.cell? ⟨w.heap.size + 1, 1, none⟩ = some (.int .i64 l2) ∧ w.heap.size + 1 < w'.heap.size ∧ Below w.heap.size w w') (first | exact keep2 (by assumption) (by assumption) | exact ⟨by simp, by simp, by simp, by simp, by simp, (by repeat (first | (with_reducible refine Below.drew ?_) | (with_reducible refine below_drewN ?_ _) | (with_reducible refine Below.alloc ?_ ?_ _) | (with_reducible refine Below.setCell ?_ ?_ _) | (with_reducible assumption) | (with_reducible exact Below.refl _ _) | omega | (simp <;> omega)))⟩)
    (first | (go_at_call 22; (with_reducible refine (toTerm _ _ _).mono ?_); rintro e w1 ⟨rfl, b1⟩) | (go_at_call 27; (with_reducible refine (sStateLines _ _ _ _ _).mono ?_); rintro e w1 ⟨rfl, b1⟩))
  go_wp2_with fail
  go_region_held3 (fun w' => w'.cell? ⟨w.heap.size, 0, none⟩ = some (.int .i64 s1) ∧ w'.cell? ⟨w.heap.size, 1, none⟩ = some (.int .i64 l1) ∧ w'.cell? ⟨w.heap.size + 1, 0, none⟩ = some (.int .i64 s2) ∧ w'.cell? ⟨w.heap.size + 1, 1, none⟩ = some (.int .i64 l2) ∧ w.heap.size + 1 < w'.heap.size ∧ Below w.heap.size w w') (first | exact keep2 (by assumption) (by assumption) | exact keep2 (by assumption) (Below.drew (Below.refl _ _)))
    (first | (go_at_call 22; (with_reducible refine (toTerm _ _ _).mono ?_); rintro e w1 ⟨rfl, b1⟩) | (go_at_call 28; (with_reducible refine (iStateLines _ _ _ _ _).mono ?_); rintro e w1 ⟨rfl, b1⟩))
  rename_i hS
  go_wp2
  go_ret
  exact ⟨rfl, hS.2.2.2.2.2⟩

set_option maxHeartbeats 2000000 in
theorem fnStateLines (a : Option Addr) (n c : Nat) (zs : List Int) (w0 : World) (h : IsRow .u8 w0 a n c zs) :
    Calls Try.prog 11 #[.slice a n c] w0 (Yes w0) := by
  have HO := Lib.hid (drawStateLines a n c zs w0 h)
  clear h
  by_cases hn : 1048576 < n
  · go_enter Try.func11, Try.ntmps11
    go_wp2_with fail
    go_ret
    exact ⟨rfl, Below.refl _ _⟩
  · go_enter Try.func11, Try.ntmps11
    go_wp2_with fail
    refine HO.out.mono ?_
    rintro e w ⟨s1, l1, s2, l2, _, _, rfl, hb0⟩
    clear HO hn
    go_wp2_with fail
    (with_reducible refine (iStateLines _ _ _ _ _).mono ?_)
    rintro e w2 ⟨rfl, b2⟩
    have hz2 := b2.size
    obtain ⟨hc2, hf2⟩ := bcell b2
    have B2 : Below w.heap.size w w2 := Below.trans (by repeat (first | (with_reducible refine Below.drew ?_) | (with_reducible refine below_drewN ?_ _) | (with_reducible refine Below.alloc ?_ ?_ _) | (with_reducible refine Below.setCell ?_ ?_ _) | (with_reducible assumption) | (with_reducible exact Below.refl _ _) | omega | (simp <;> omega))) (b2.mono (by first | omega | (simp <;> omega)))
    (try simp at hz2)
    have hy2 : w.heap.size < w2.heap.size := by omega
    clear b2
    have hx2 : w.heap.size + 1 < w2.heap.size := by omega
    go_wp2_with fail
    (with_reducible refine (sStateLines _ _ _ _ _).mono ?_)
    rintro e w3 ⟨rfl, b3⟩
    have hz3 := b3.size
    obtain ⟨hc3, hf3⟩ := bcell b3
    have B3 : Below w.heap.size w w3 := Below.trans (by repeat (first | (with_reducible refine Below.drew ?_) | (with_reducible refine below_drewN ?_ _) | (with_reducible refine Below.alloc ?_ ?_ _) | (with_reducible refine Below.setCell ?_ ?_ _) | (with_reducible assumption) | (with_reducible exact Below.refl _ _) | omega | (simp <;> omega))) (b3.mono (by first | omega | (simp <;> omega)))
    (try simp at hz3)
    have hy3 : w.heap.size < w3.heap.size := by omega
    clear b3
    have hx3 : w.heap.size + 1 < w3.heap.size := by omega
    have hcm1 := levelJs_le s1 l1
    have hcm2 := levelJs_le s2 l2
    by_cases hz : lines s1 l1 s2 l2 = 0
    · rw [hz]
      clear hz
      go_wp2
      go_ret
      exact ⟨rfl, hb0.trans (B3.mono hb0.size)⟩
    · obtain ⟨q1, q2, q3, q4⟩ := lines_law hz
      have HQ := Lib.hid q1
      have hz' : ((lines s1 l1 s2 l2 : Int) == 0) = false := beq_eq_false_iff_ne.2 (by omega)
      have hz2 : (lines s1 l1 s2 l2 == 0) = false := beq_eq_false_iff_ne.2 hz
      have hq4 : (s1 == s2) = true := by simp [q4]
      have i2 : (lines s1 l1 s2 l2 : Int) ≤ 3 * ((levelJs s1 l1).length : Int) := by omega
      have i3 : (lines s1 l1 s2 l2 : Int) ≤ 3 * ((levelJs s2 l2).length : Int) := by omega
      clear q1 q4
      go_wp2_with fail
      (with_reducible refine (iStateLines _ _ _ _ _).mono ?_)
      rintro e w4 ⟨rfl, b4⟩
      rw [HQ.out]
      have B4 : Below w.heap.size w w4 := B3.trans (b4.mono B3.size)
      have s4 := b4.size
      obtain ⟨hc4, hf4⟩ := bcell b4
      clear b4
      go_wp2_with fail
      (with_reducible refine (iLevelsOf _ _ _).mono ?_)
      rintro e w5 ⟨v5, rfl, O5, b5⟩
      have B5 : Below w.heap.size w w5 := B4.trans (b5.mono B4.size)
      have s5 := b5.size
      obtain ⟨hc5, hf5⟩ := bcell b5
      have y5 : w.heap.size < w4.heap.size := by omega
      have x5 : w.heap.size + 1 < w4.heap.size := by omega
      clear b5
      obtain ⟨a5, c5, rfl⟩ := slice_form O5
      clear O5
      go_wp2_with fail
      (with_reducible refine (iLevelsOf _ _ _).mono ?_)
      rintro e w6 ⟨v6, rfl, O6, b6⟩
      have B6 : Below w.heap.size w w6 := B5.trans (b6.mono B5.size)
      have s6 := b6.size
      obtain ⟨hc6, hf6⟩ := bcell b6
      have y6 : w.heap.size < w5.heap.size := by omega
      have x6 : w.heap.size + 1 < w5.heap.size := by omega
      clear b6
      obtain ⟨a6, c6, rfl⟩ := slice_form O6
      clear O6
      go_wp2
      go_ret
      exact ⟨rfl, hb0.trans (B6.mono hb0.size)⟩

end Go.Proofs.Ytdlioofnoibidaa.LinesLaws
