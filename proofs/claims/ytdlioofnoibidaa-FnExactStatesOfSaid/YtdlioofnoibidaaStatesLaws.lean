/-
  The walk of the exact law on StatesOf.
-/
import Derived.Test.YtdlioofnoibidaaStatesEq
import Derived.Test.YtdlioofnoibidaaStateLaws
namespace Go.Proofs.Ytdlioofnoibidaa.StatesLaws
open Go.RowKit Go.Proofs.Ytdlioofnoibidaa.Spin Go.Proofs.Ytdlioofnoibidaa.Row Go.Proofs.Ytdlioofnoibidaa.Coupled Go.Proofs.Ytdlioofnoibidaa.States Go.Proofs.Ytdlioofnoibidaa.StatesEq Go.Proofs.Ytdlioofnoibidaa.StateLaws

set_option maxHeartbeats 1000000 in
theorem fnExactStatesOf (s l : Int) (odd : Bool) (w : World) (_ : (Lit.int .i64 s).wf = true) (_ : (Lit.int .i64 l).wf = true) :
    Calls Try.prog 6 #[.agg #[.int .i64 s, .int .i64 l], .bool odd] w (Yes w) := by
  have hcm := levelJs_le s l
  go_enter Try.func6, Try.ntmps6
  go_wp2_with fail
  (with_reducible refine (toTerm _ _ _).mono ?_)
  rintro e w1 ⟨rfl, b1⟩
  have hz1 := b1.size
  obtain ⟨hc1, hf1⟩ := bcell b1
  have B1 : Below w.heap.size w w1 := Below.trans (by repeat (first | (with_reducible refine Below.drew ?_) | (with_reducible refine below_drewN ?_ _) | (with_reducible refine Below.alloc ?_ ?_ _) | (with_reducible refine Below.setCell ?_ ?_ _) | (with_reducible assumption) | (with_reducible exact Below.refl _ _) | omega | (simp <;> omega))) (b1.mono (by first | omega | (simp <;> omega)))
  (try simp at hz1)
  have hy1 : w.heap.size < w1.heap.size := by omega
  clear b1
  go_wp2_with fail
  (with_reducible refine (sStatesOf _ _ _ _).mono ?_)
  rintro e w2 ⟨v0, rfl, O2, b2⟩
  have B2 := B1.trans (b2.mono B1.size)
  have t0 : w2.cell? ⟨w.heap.size, 0, none⟩ = some (.int .i64 s) := (b2.cell (p := ⟨w.heap.size, 0, none⟩) hy1).trans ((hc1 _ _ (by simp)).trans (by simp))
  have t1 : w2.cell? ⟨w.heap.size, 1, none⟩ = some (.int .i64 l) := (b2.cell (p := ⟨w.heap.size, 1, none⟩) hy1).trans ((hc1 _ _ (by simp)).trans (by simp))
  have hy2 : w.heap.size < w2.heap.size := Nat.lt_of_lt_of_le hy1 b2.size
  clear b2 hc1 hf1 B1 hz1
  go_wp2_with fail
  (with_reducible refine (toTerm _ _ _).mono ?_)
  rintro e w3 ⟨rfl, b3⟩
  have B3 := B2.trans (b3.mono B2.size)
  have O3 := own_below O2 b3 (Nat.le_refl _)
  have p0 : w3.cell? ⟨w.heap.size, 0, none⟩ = some (.int .i64 s) := (b3.cell (p := ⟨w.heap.size, 0, none⟩) hy2).trans t0
  have p1 : w3.cell? ⟨w.heap.size, 1, none⟩ = some (.int .i64 l) := (b3.cell (p := ⟨w.heap.size, 1, none⟩) hy2).trans t1
  have hy3 : w.heap.size < w3.heap.size := Nat.lt_of_lt_of_le hy2 b3.size
  clear t0 t1 O2 B2 b3
  go_wp2_with fail
  (with_reducible refine (iStatesOf _ _ _ _).mono ?_)
  rintro e w4 ⟨v1, rfl, Q4, b4⟩
  have B4 := B3.trans (b4.mono B3.size)
  have O4 := own_below O3 b4 (Nat.le_refl _)
  have r0 : w4.cell? ⟨w.heap.size, 0, none⟩ = some (.int .i64 s) := (b4.cell (p := ⟨w.heap.size, 0, none⟩) hy3).trans p0
  have r1 : w4.cell? ⟨w.heap.size, 1, none⟩ = some (.int .i64 l) := (b4.cell (p := ⟨w.heap.size, 1, none⟩) hy3).trans p1
  have hy4 : w.heap.size < w4.heap.size := Nat.lt_of_lt_of_le hy3 b4.size
  have hv1 : ∀ g, v1.ownBlock = some g → w3.heap.size ≤ g := fun g h => (Q4.lt g h).1
  have hv0 : ∀ g, v0.ownBlock = some g → g < w3.heap.size := fun g h => (O3.lt g h).2
  have HV0 := Lib.hid hv0
  have HV1 := Lib.hid hv1
  clear p0 p1 O3 B3 b4 hv0 hv1
  go_wp2_with fail
  (with_reducible refine (eqStateS s l odd (levelJs s l) _ _ _ (Sees.of_own Q4) (Sees.of_own O4)).mono ?_)
  rintro e w5 ⟨rfl, b5⟩
  have B5 := B4.trans (b5.mono B4.size)
  have O5 := own_below O4 b5 (Nat.le_refl _)
  have Q5 := own_below Q4 b5 (Nat.le_refl _)
  have m0 : w5.cell? ⟨w.heap.size, 0, none⟩ = some (.int .i64 s) := (b5.cell (p := ⟨w.heap.size, 0, none⟩) hy4).trans r0
  have m1 : w5.cell? ⟨w.heap.size, 1, none⟩ = some (.int .i64 l) := (b5.cell (p := ⟨w.heap.size, 1, none⟩) hy4).trans r1
  have hy5 : w.heap.size < w5.heap.size := Nat.lt_of_lt_of_le hy4 b5.size
  clear r0 r1 O4 Q4 B4 b5
  go_wp2_with fail
  (with_reducible refine (markStateS _ _ _ _ _ _ Q5 (by omega) (by omega) (by omega)).mono ?_)
  rintro e w6 ⟨rfl, Q6, G6⟩
  have O6 := O5.kept G6 (by
    cases h0 : v0.ownBlock with
    | none => exact .inl rfl
    | some g =>
      refine .inr fun e => ?_
      have h1 := HV0.out g h0
      have h2 := HV1.out g e.symm
      omega)
  have hw3 : w.heap.size < w3.heap.size := hy3
  have B6 := below_only B5 G6 B5.size (fun g h => by have := HV1.out g h; omega)
  have n0 : w6.cell? ⟨w.heap.size, 0, none⟩ = some (.int .i64 s) := (only_cell G6 hy5 (fun e => by have := HV1.out _ e.symm; omega) 0).trans m0
  have n1 : w6.cell? ⟨w.heap.size, 1, none⟩ = some (.int .i64 l) := (only_cell G6 hy5 (fun e => by have := HV1.out _ e.symm; omega) 1).trans m1
  have hy6 : w.heap.size < w6.heap.size := Nat.lt_of_lt_of_le hy5 G6.size
  clear m0 m1 O5 Q5 B5 G6
  go_wp2_with fail
  (with_reducible refine (heldStateS _ _ _ _ (Sees.of_own Q6) (by omega) (by omega) (by omega)).mono ?_)
  rintro e w' ⟨rfl, rfl⟩
  go_wp2_with fail
  (with_reducible refine (toTerm _ _ _).mono ?_)
  rintro e w7 ⟨rfl, b7⟩
  have B7 := B6.trans (b7.mono B6.size)
  have O7 := own_below O6 b7 (Nat.le_refl _)
  have Q7 := own_below Q6 b7 (Nat.le_refl _)
  clear n0 n1 O6 Q6 B6 b7
  go_wp2_with fail
  (with_reducible refine (iStatesOf _ _ _ _).mono ?_)
  rintro e w8 ⟨v2, rfl, R8, b8⟩
  have B8 := B7.trans (b8.mono B7.size)
  have O8 := own_below O7 b8 (Nat.le_refl _)
  have Q8 := own_below Q7 b8 (Nat.le_refl _)
  clear O7 Q7 B7 b8
  go_wp2_with fail
  (with_reducible refine (eqStateS s l odd (levelJs s l) _ _ _ (Sees.of_own R8) (Sees.of_own O8)).mono ?_)
  rintro e w9 ⟨rfl, b9⟩
  have B9 := B8.trans (b9.mono B8.size)
  have Q9 := own_below Q8 b9 (Nat.le_refl _)
  clear O8 Q8 R8 B8 b9
  go_wp2_with fail
  (with_reducible refine (heldStateS _ _ _ _ (Sees.of_own Q9) (by omega) (by omega) (by omega)).mono ?_)
  rintro e w' ⟨rfl, rfl⟩
  go_wp2
  go_ret
  exact ⟨rfl, B9⟩

end Go.Proofs.Ytdlioofnoibidaa.StatesLaws
