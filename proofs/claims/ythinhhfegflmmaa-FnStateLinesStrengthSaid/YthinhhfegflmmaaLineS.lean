/-
  LineStrength: the reference's.
-/
import Derived.Test.YthinhhfegflmmaaSixJS
namespace Go.Proofs.Ythinhhfegflmmaa.LineS
open Go.RowKit Go.Proofs.Ythinhhfegflmmaa.RatP Go.Proofs.Ythinhhfegflmmaa.Rat Go.Proofs.Ythinhhfegflmmaa.ChoP Go.Proofs.Ythinhhfegflmmaa.StrP Go.Proofs.Ythinhhfegflmmaa.Spin Go.Proofs.Ythinhhfegflmmaa.Row Go.Proofs.Ythinhhfegflmmaa.Later Go.Proofs.Ythinhhfegflmmaa.Fact Go.Proofs.Ythinhhfegflmmaa.Delta Go.Proofs.Ythinhhfegflmmaa.Ways Go.Proofs.Ythinhhfegflmmaa.Root Go.Proofs.Ythinhhfegflmmaa.Two Go.Proofs.Ythinhhfegflmmaa.SixS
set_option linter.unusedVariables false
set_option linter.unusedSimpArgs false

theorem smallL_parts {s l j : Int} (h : smallL s l j = true) : levelOk s l j = true ∧ (0 ≤ 2 * l ∧ 2 * l ≤ 6) ∧ (0 ≤ j ∧ j ≤ 6) ∧ (0 ≤ s ∧ s ≤ 6) := by
  unfold smallL at h
  rw [Bool.and_eq_true] at h
  obtain ⟨h1, h2⟩ := h
  have h3 := of_decide_eq_true h2
  have h4 := h1
  unfold levelOk at h4
  rw [Bool.and_eq_true] at h4
  have h5 := termOk_true.1 h4.1
  have h6 := tri_true.1 h4.2
  exact ⟨h1, by omega, by omega, by omega⟩
theorem dom_of {s l j l' j' : Int} (h1 : smallL s l j = true) (h2 : smallL s l' j' = true) (h : sixOk (2 * l) j s j' (2 * l') 2 = true) : Dom (2 * l) j s j' (2 * l') := by
  obtain ⟨-, a, b, c⟩ := smallL_parts h1
  obtain ⟨-, a', b', -⟩ := smallL_parts h2
  exact ⟨by omega, b, c, b', by omega, h⟩
theorem line_no1 {s l j : Int} (s' l' j' : Int) (h : smallL s l j = false) : lineS s l j s' l' j' = bad := by unfold lineS; rw [if_neg (by simp [h])]
theorem line_no2 {s' l' j' : Int} (s l j : Int) (h : smallL s' l' j' = false) : lineS s l j s' l' j' = bad := by unfold lineS; rw [if_neg (by simp [h])]
theorem line_no3 {s s' : Int} (l j l' j' : Int) (h : ¬ s = s') : lineS s l j s' l' j' = bad := by unfold lineS; rw [if_neg (by simp [h])]
theorem line_zero {s l j l' j' : Int} (h1 : smallL s l j = true) (h2 : smallL s l' j' = true) (h : sixOk (2 * l) j s j' (2 * l') 2 = false) : lineS s l j s l' j' = ⟨0, 1, true⟩ := by
  unfold lineS; rw [if_pos ⟨h1, h2, rfl⟩, h]; rfl
theorem line_some {s l j l' j' : Int} (h1 : smallL s l j = true) (h2 : smallL s l' j' = true) (h : sixOk (2 * l) j s j' (2 * l') 2 = true) : lineS s l j s l' j' = if (sixR (2 * l) j s j' (2 * l')).ok = true then mulR (sixR (2 * l) j s j' (2 * l')).n (sixR (2 * l) j s j' (2 * l')).d ((j + 1) * (j' + 1)) 1 else bad := by
  unfold lineS; rw [if_pos ⟨h1, h2, rfl⟩, if_pos h]
theorem root_six {a b c d e : Int} (hd : Dom a b c d e) : (mkR (sumS a b c d e 2 * sumS a b c d e 2 * 1) (denS a b c d e 2)) = sixR a b c d e := by
  obtain ⟨g1, g2, _⟩ := six_facts hd
  unfold sixR
  rw [g1, g2, Int.mul_one]
theorem root_sixI {a b c d e : Int} (hd : Dom a b c d e) : (mkR (sumI a b c d e 2 * sumI a b c d e 2 * 1) (den6 a b c d e 2)) = sixR a b c d e := by
  unfold sixR
  rw [Int.mul_one]

set_option maxRecDepth 100000 in
set_option maxHeartbeats 1000000 in
theorem sSmall (s l j : Int) (w : World) : Calls Try.prog 56 #[.agg #[.int .i64 s, .int .i64 l, .int .i64 j]] w (Gives (.bool (smallL s l j)) w) := by
  have HL := Lib.hid (fun W (r : Bool) (h : levelOk s l j = r) => (h ▸ sLevelValid s l j W : Calls Try.prog 66 #[.agg #[.int .i64 s, .int .i64 l, .int .i64 j]] W (Gives (.bool r) W)))
  cases h : levelOk s l j
  · have HV := Lib.hid (fun W => HL.out W _ h)
    have HR := Lib.hid (show smallL s l j = false by unfold smallL; rw [h]; rfl)
    clear h
    go_enter Try.func56, Try.ntmps56
    go_wp2_with fail
    (with_reducible refine (HV.out _).mono ?_)
    rintro e w1 ⟨rfl, b1⟩
    have hz1 := b1.size
    obtain ⟨hc1, hf1⟩ := bcell b1
    have B1 : Below w.heap.size w w1 := Below.trans (by repeat (first | (with_reducible refine Below.drew ?_) | (with_reducible refine below_drewN ?_ _) | (with_reducible refine Below.alloc ?_ ?_ _) | (with_reducible refine Below.setCell ?_ ?_ _) | (with_reducible assumption) | (with_reducible exact Below.refl _ _) | omega | (simp <;> omega))) (b1.mono (by first | omega | (simp <;> omega)))
    (try simp at hz1)
    have hy1 : w.heap.size < w1.heap.size := by omega
    clear b1
    go_wp2
    go_ret
    exact ⟨ret_bool HR.out.symm, (by repeat (first | (with_reducible refine Below.drew ?_) | (with_reducible refine below_drewN ?_ _) | (with_reducible refine Below.alloc ?_ ?_ _) | (with_reducible refine Below.setCell ?_ ?_ _) | (with_reducible assumption) | (with_reducible exact Below.refl _ _) | omega | (simp <;> omega)))⟩
  · have HV := Lib.hid (fun W => HL.out W _ h)
    have h4 := h
    unfold levelOk at h4
    rw [Bool.and_eq_true] at h4
    have h5 := termOk_true.1 h4.1
    have h6 := tri_true.1 h4.2
    obtain ⟨⟨s0, s8⟩, l0, l8⟩ := h5
    have hj : 0 ≤ j ∧ j ≤ 24 := by omega
    obtain ⟨j0, j24⟩ := hj
    have HR := Lib.hid (show smallL s l j = decide (2 * l ≤ 6 ∧ j ≤ 6 ∧ s ≤ 6) by unfold smallL; rw [h]; rfl)
    clear h h4 h6
    have k1 : (2 * l ≤ 6 ∧ decide (2 * l ≤ 6) = true) ∨ (¬ 2 * l ≤ 6 ∧ decide (2 * l ≤ 6) = false) := by by_cases k : 2 * l ≤ 6 <;> simp [k]
    have k2 : (j ≤ 6 ∧ decide (j ≤ 6) = true) ∨ (¬ j ≤ 6 ∧ decide (j ≤ 6) = false) := by by_cases k : j ≤ 6 <;> simp [k]
    rcases k1 with ⟨k1, k1'⟩ | ⟨k1, k1'⟩ <;> rcases k2 with ⟨k2, k2'⟩ | ⟨k2, k2'⟩
    all_goals
      go_enter Try.func56, Try.ntmps56
      go_wp2_with fail
      (with_reducible refine (HV.out _).mono ?_)
      rintro e w1 ⟨rfl, b1⟩
      have hz1 := b1.size
      obtain ⟨hc1, hf1⟩ := bcell b1
      have B1 : Below w.heap.size w w1 := Below.trans (by repeat (first | (with_reducible refine Below.drew ?_) | (with_reducible refine below_drewN ?_ _) | (with_reducible refine Below.alloc ?_ ?_ _) | (with_reducible refine Below.setCell ?_ ?_ _) | (with_reducible assumption) | (with_reducible exact Below.refl _ _) | omega | (simp <;> omega))) (b1.mono (by first | omega | (simp <;> omega)))
      (try simp at hz1)
      have hy1 : w.heap.size < w1.heap.size := by omega
      clear b1
      have kc1_0_0 : w1.cell? ⟨w.heap.size, 0, none⟩ = some (.int .i64 s) := (hc1 (w.heap.size) 0 (by first | omega | (simp <;> omega))).trans (by first | (simp; done) | (simp [*]; done) | (simp [*, World.cell?_alloc_at, World.cell?_alloc_past, World.cell?_alloc_lt, lt2, lt3, lt4]; done))
      have kc1_1_0 : w1.cell? ⟨w.heap.size, 1, none⟩ = some (.int .i64 l) := (hc1 (w.heap.size) 1 (by first | omega | (simp <;> omega))).trans (by first | (simp; done) | (simp [*]; done) | (simp [*, World.cell?_alloc_at, World.cell?_alloc_past, World.cell?_alloc_lt, lt2, lt3, lt4]; done))
      have kc1_2_0 : w1.cell? ⟨w.heap.size, 2, none⟩ = some (.int .i64 j) := (hc1 (w.heap.size) 2 (by first | omega | (simp <;> omega))).trans (by first | (simp; done) | (simp [*]; done) | (simp [*, World.cell?_alloc_at, World.cell?_alloc_past, World.cell?_alloc_lt, lt2, lt3, lt4]; done))
      go_wp2
      go_ret
      exact ⟨ret_bool (by rw [HR.out, Bool.eq_iff_iff]; simp <;> omega), (by repeat (first | (with_reducible refine Below.drew ?_) | (with_reducible refine below_drewN ?_ _) | (with_reducible refine Below.alloc ?_ ?_ _) | (with_reducible refine Below.setCell ?_ ?_ _) | (with_reducible assumption) | (with_reducible exact Below.refl _ _) | omega | (simp <;> omega)))⟩
theorem sSmall_is {s l j : Int} {r : Bool} (w : World) (h : smallL s l j = r) : Calls Try.prog 56 #[.agg #[.int .i64 s, .int .i64 l, .int .i64 j]] w (Gives (.bool r) w) := h ▸ sSmall s l j w

set_option maxRecDepth 100000 in
set_option maxHeartbeats 4000000 in
theorem sLineStrength (s l j s' l' j' : Int) (w : World) : Calls Try.prog 31 #[.agg #[.int .i64 s, .int .i64 l, .int .i64 j], .agg #[.int .i64 s', .int .i64 l', .int .i64 j']] w (Gives (roV (lineS s l j s' l' j')) w) := by
  cases h1 : smallL s l j
  · have HR := Lib.hid (line_no1 s' l' j' h1)
    have HV := Lib.hid (fun W => sSmall_is W h1)
    clear h1
    go_enter Try.func31, Try.ntmps31
    go_wp2_with fail
    (with_reducible refine (HV.out _).mono ?_)
    rintro e w1 ⟨rfl, b1⟩
    have hz1 := b1.size
    obtain ⟨hc1, hf1⟩ := bcell b1
    have B1 : Below w.heap.size w w1 := Below.trans (by repeat (first | (with_reducible refine Below.drew ?_) | (with_reducible refine below_drewN ?_ _) | (with_reducible refine Below.alloc ?_ ?_ _) | (with_reducible refine Below.setCell ?_ ?_ _) | (with_reducible assumption) | (with_reducible exact Below.refl _ _) | omega | (simp <;> omega))) (b1.mono (by first | omega | (simp <;> omega)))
    (try simp at hz1)
    have hy1 : w.heap.size < w1.heap.size := by omega
    clear b1
    have kc1_0_2 : w1.cell? ⟨w.heap.size + 1 + 1, 0, none⟩ = some (.int .i64 0) := (hc1 (w.heap.size + 1 + 1) 0 (by first | omega | (simp <;> omega))).trans (by first | (simp; done) | (simp [*]; done) | (simp [*, World.cell?_alloc_at, World.cell?_alloc_past, World.cell?_alloc_lt, lt2, lt3, lt4]; done))
    have kc1_1_2 : w1.cell? ⟨w.heap.size + 1 + 1, 1, none⟩ = some (.int .i64 0) := (hc1 (w.heap.size + 1 + 1) 1 (by first | omega | (simp <;> omega))).trans (by first | (simp; done) | (simp [*]; done) | (simp [*, World.cell?_alloc_at, World.cell?_alloc_past, World.cell?_alloc_lt, lt2, lt3, lt4]; done))
    have kf1_0_2 : w1.frozen? ⟨w.heap.size + 1 + 1, 0, none⟩ = false := (hf1 (w.heap.size + 1 + 1) 0 (by first | omega | (simp <;> omega))).trans (by first | (simp; done) | (simp [*]; done) | (simp [*, World.frozen?_alloc_at, World.frozen?_alloc_past, lt2, lt3, lt4]; done))
    have kf1_1_2 : w1.frozen? ⟨w.heap.size + 1 + 1, 1, none⟩ = false := (hf1 (w.heap.size + 1 + 1) 1 (by first | omega | (simp <;> omega))).trans (by first | (simp; done) | (simp [*]; done) | (simp [*, World.frozen?_alloc_at, World.frozen?_alloc_past, lt2, lt3, lt4]; done))
    go_wp2
    refine bodyPost_ret (v := .tuple #[.agg #[.int .i64 0, .int .i64 0], .bool false]) (by simp [results, Try.results31, go_sem, *, lt2, lt3, lt4, lt5, lt6]) rfl ⟨by rw [HR.out]; rfl, (by repeat (first | (with_reducible refine Below.drew ?_) | (with_reducible refine below_drewN ?_ _) | (with_reducible refine Below.alloc ?_ ?_ _) | (with_reducible refine Below.setCell ?_ ?_ _) | (with_reducible assumption) | (with_reducible exact Below.refl _ _) | omega | (simp <;> omega)))⟩
  · cases h2 : smallL s' l' j'
    · have HR := Lib.hid (line_no2 s l j h2)
      have HV := Lib.hid (fun W => sSmall_is W h1)
      have HW := Lib.hid (fun W => sSmall_is W h2)
      clear h1 h2
      go_enter Try.func31, Try.ntmps31
      go_wp2_with fail
      (with_reducible refine (HV.out _).mono ?_)
      rintro e w1 ⟨rfl, b1⟩
      have hz1 := b1.size
      obtain ⟨hc1, hf1⟩ := bcell b1
      have B1 : Below w.heap.size w w1 := Below.trans (by repeat (first | (with_reducible refine Below.drew ?_) | (with_reducible refine below_drewN ?_ _) | (with_reducible refine Below.alloc ?_ ?_ _) | (with_reducible refine Below.setCell ?_ ?_ _) | (with_reducible assumption) | (with_reducible exact Below.refl _ _) | omega | (simp <;> omega))) (b1.mono (by first | omega | (simp <;> omega)))
      (try simp at hz1)
      have hy1 : w.heap.size < w1.heap.size := by omega
      clear b1
      have kc1_0_0 : w1.cell? ⟨w.heap.size, 0, none⟩ = some (.int .i64 s) := (hc1 (w.heap.size) 0 (by first | omega | (simp <;> omega))).trans (by first | (simp; done) | (simp [*]; done) | (simp [*, World.cell?_alloc_at, World.cell?_alloc_past, World.cell?_alloc_lt, lt2, lt3, lt4]; done))
      have kc1_1_0 : w1.cell? ⟨w.heap.size, 1, none⟩ = some (.int .i64 l) := (hc1 (w.heap.size) 1 (by first | omega | (simp <;> omega))).trans (by first | (simp; done) | (simp [*]; done) | (simp [*, World.cell?_alloc_at, World.cell?_alloc_past, World.cell?_alloc_lt, lt2, lt3, lt4]; done))
      have kc1_2_0 : w1.cell? ⟨w.heap.size, 2, none⟩ = some (.int .i64 j) := (hc1 (w.heap.size) 2 (by first | omega | (simp <;> omega))).trans (by first | (simp; done) | (simp [*]; done) | (simp [*, World.cell?_alloc_at, World.cell?_alloc_past, World.cell?_alloc_lt, lt2, lt3, lt4]; done))
      have kc1_0_1 : w1.cell? ⟨w.heap.size + 1, 0, none⟩ = some (.int .i64 s') := (hc1 (w.heap.size + 1) 0 (by first | omega | (simp <;> omega))).trans (by first | (simp; done) | (simp [*]; done) | (simp [*, World.cell?_alloc_at, World.cell?_alloc_past, World.cell?_alloc_lt, lt2, lt3, lt4]; done))
      have kc1_1_1 : w1.cell? ⟨w.heap.size + 1, 1, none⟩ = some (.int .i64 l') := (hc1 (w.heap.size + 1) 1 (by first | omega | (simp <;> omega))).trans (by first | (simp; done) | (simp [*]; done) | (simp [*, World.cell?_alloc_at, World.cell?_alloc_past, World.cell?_alloc_lt, lt2, lt3, lt4]; done))
      have kc1_2_1 : w1.cell? ⟨w.heap.size + 1, 2, none⟩ = some (.int .i64 j') := (hc1 (w.heap.size + 1) 2 (by first | omega | (simp <;> omega))).trans (by first | (simp; done) | (simp [*]; done) | (simp [*, World.cell?_alloc_at, World.cell?_alloc_past, World.cell?_alloc_lt, lt2, lt3, lt4]; done))
      have kc1_0_2 : w1.cell? ⟨w.heap.size + 1 + 1, 0, none⟩ = some (.int .i64 0) := (hc1 (w.heap.size + 1 + 1) 0 (by first | omega | (simp <;> omega))).trans (by first | (simp; done) | (simp [*]; done) | (simp [*, World.cell?_alloc_at, World.cell?_alloc_past, World.cell?_alloc_lt, lt2, lt3, lt4]; done))
      have kc1_1_2 : w1.cell? ⟨w.heap.size + 1 + 1, 1, none⟩ = some (.int .i64 0) := (hc1 (w.heap.size + 1 + 1) 1 (by first | omega | (simp <;> omega))).trans (by first | (simp; done) | (simp [*]; done) | (simp [*, World.cell?_alloc_at, World.cell?_alloc_past, World.cell?_alloc_lt, lt2, lt3, lt4]; done))
      have kf1_0_2 : w1.frozen? ⟨w.heap.size + 1 + 1, 0, none⟩ = false := (hf1 (w.heap.size + 1 + 1) 0 (by first | omega | (simp <;> omega))).trans (by first | (simp; done) | (simp [*]; done) | (simp [*, World.frozen?_alloc_at, World.frozen?_alloc_past, lt2, lt3, lt4]; done))
      have kf1_1_2 : w1.frozen? ⟨w.heap.size + 1 + 1, 1, none⟩ = false := (hf1 (w.heap.size + 1 + 1) 1 (by first | omega | (simp <;> omega))).trans (by first | (simp; done) | (simp [*]; done) | (simp [*, World.frozen?_alloc_at, World.frozen?_alloc_past, lt2, lt3, lt4]; done))
      have hya1 : w.heap.size + 1 < w1.heap.size := by omega
      have hyb1 : w.heap.size + 1 + 1 < w1.heap.size := by omega
      go_wp2_with fail
      (with_reducible refine (HW.out _).mono ?_)
      rintro e w2 ⟨rfl, b2⟩
      have hz2 := b2.size
      obtain ⟨hc2, hf2⟩ := bcell b2
      have B2 : Below w.heap.size w w2 := Below.trans (by repeat (first | (with_reducible refine Below.drew ?_) | (with_reducible refine below_drewN ?_ _) | (with_reducible refine Below.alloc ?_ ?_ _) | (with_reducible refine Below.setCell ?_ ?_ _) | (with_reducible assumption) | (with_reducible exact Below.refl _ _) | omega | (simp <;> omega))) (b2.mono (by first | omega | (simp <;> omega)))
      (try simp at hz2)
      have hy2 : w.heap.size < w2.heap.size := by omega
      clear b2
      have kc2_0_0 : w2.cell? ⟨w.heap.size, 0, none⟩ = some (.int .i64 s) := (hc2 (w.heap.size) 0 (by first | omega | (simp <;> omega))).trans (by first | (simp; done) | (simp [*]; done) | (simp [*, World.cell?_alloc_at, World.cell?_alloc_past, World.cell?_alloc_lt, lt2, lt3, lt4]; done))
      have kc2_1_0 : w2.cell? ⟨w.heap.size, 1, none⟩ = some (.int .i64 l) := (hc2 (w.heap.size) 1 (by first | omega | (simp <;> omega))).trans (by first | (simp; done) | (simp [*]; done) | (simp [*, World.cell?_alloc_at, World.cell?_alloc_past, World.cell?_alloc_lt, lt2, lt3, lt4]; done))
      have kc2_2_0 : w2.cell? ⟨w.heap.size, 2, none⟩ = some (.int .i64 j) := (hc2 (w.heap.size) 2 (by first | omega | (simp <;> omega))).trans (by first | (simp; done) | (simp [*]; done) | (simp [*, World.cell?_alloc_at, World.cell?_alloc_past, World.cell?_alloc_lt, lt2, lt3, lt4]; done))
      have kc2_0_1 : w2.cell? ⟨w.heap.size + 1, 0, none⟩ = some (.int .i64 s') := (hc2 (w.heap.size + 1) 0 (by first | omega | (simp <;> omega))).trans (by first | (simp; done) | (simp [*]; done) | (simp [*, World.cell?_alloc_at, World.cell?_alloc_past, World.cell?_alloc_lt, lt2, lt3, lt4]; done))
      have kc2_1_1 : w2.cell? ⟨w.heap.size + 1, 1, none⟩ = some (.int .i64 l') := (hc2 (w.heap.size + 1) 1 (by first | omega | (simp <;> omega))).trans (by first | (simp; done) | (simp [*]; done) | (simp [*, World.cell?_alloc_at, World.cell?_alloc_past, World.cell?_alloc_lt, lt2, lt3, lt4]; done))
      have kc2_2_1 : w2.cell? ⟨w.heap.size + 1, 2, none⟩ = some (.int .i64 j') := (hc2 (w.heap.size + 1) 2 (by first | omega | (simp <;> omega))).trans (by first | (simp; done) | (simp [*]; done) | (simp [*, World.cell?_alloc_at, World.cell?_alloc_past, World.cell?_alloc_lt, lt2, lt3, lt4]; done))
      have kc2_0_2 : w2.cell? ⟨w.heap.size + 1 + 1, 0, none⟩ = some (.int .i64 0) := (hc2 (w.heap.size + 1 + 1) 0 (by first | omega | (simp <;> omega))).trans (by first | (simp; done) | (simp [*]; done) | (simp [*, World.cell?_alloc_at, World.cell?_alloc_past, World.cell?_alloc_lt, lt2, lt3, lt4]; done))
      have kc2_1_2 : w2.cell? ⟨w.heap.size + 1 + 1, 1, none⟩ = some (.int .i64 0) := (hc2 (w.heap.size + 1 + 1) 1 (by first | omega | (simp <;> omega))).trans (by first | (simp; done) | (simp [*]; done) | (simp [*, World.cell?_alloc_at, World.cell?_alloc_past, World.cell?_alloc_lt, lt2, lt3, lt4]; done))
      have kf2_0_2 : w2.frozen? ⟨w.heap.size + 1 + 1, 0, none⟩ = false := (hf2 (w.heap.size + 1 + 1) 0 (by first | omega | (simp <;> omega))).trans (by first | (simp; done) | (simp [*]; done) | (simp [*, World.frozen?_alloc_at, World.frozen?_alloc_past, lt2, lt3, lt4]; done))
      have kf2_1_2 : w2.frozen? ⟨w.heap.size + 1 + 1, 1, none⟩ = false := (hf2 (w.heap.size + 1 + 1) 1 (by first | omega | (simp <;> omega))).trans (by first | (simp; done) | (simp [*]; done) | (simp [*, World.frozen?_alloc_at, World.frozen?_alloc_past, lt2, lt3, lt4]; done))
      have hya2 : w.heap.size + 1 < w2.heap.size := by omega
      have hyb2 : w.heap.size + 1 + 1 < w2.heap.size := by omega
      go_wp2
      refine bodyPost_ret (v := .tuple #[.agg #[.int .i64 0, .int .i64 0], .bool false]) (by simp [results, Try.results31, go_sem, *, lt2, lt3, lt4, lt5, lt6]) rfl ⟨by rw [HR.out]; rfl, (by repeat (first | (with_reducible refine Below.drew ?_) | (with_reducible refine below_drewN ?_ _) | (with_reducible refine Below.alloc ?_ ?_ _) | (with_reducible refine Below.setCell ?_ ?_ _) | (with_reducible assumption) | (with_reducible exact Below.refl _ _) | omega | (simp <;> omega)))⟩
    · by_cases h3 : s = s'
      · subst h3
        have h3 : (s != s) = false := by simp
        have HV := Lib.hid (fun W => sSmall_is W h1)
        have HW := Lib.hid (fun W => sSmall_is W h2)
        obtain ⟨-, p1, p2, p3⟩ := smallL_parts h1
        obtain ⟨-, p4, p5, -⟩ := smallL_parts h2
        have HO := Lib.hid (fun W (r : Bool) (h : sixOk (2 * l) j s j' (2 * l') 2 = r) => sOk6_is W p1 p2 p3 p5 p4 (f := 2) (by omega) h)
        have hZ := line_zero h1 h2
        have hS := line_some h1 h2
        have hD := dom_of h1 h2
        clear h1 h2
        obtain ⟨p1a, p1b⟩ := p1
        obtain ⟨p2a, p2b⟩ := p2
        obtain ⟨p4a, p4b⟩ := p4
        obtain ⟨p5a, p5b⟩ := p5
        cases h4 : sixOk (2 * l) j s j' (2 * l') 2
        · have HR := Lib.hid (hZ h4)
          have HX := Lib.hid (fun W => HO.out W _ h4)
          clear hZ hS hD h4 HO
          go_enter Try.func31, Try.ntmps31
          go_wp2_with fail
          (with_reducible refine (HV.out _).mono ?_)
          rintro e w1 ⟨rfl, b1⟩
          have hz1 := b1.size
          obtain ⟨hc1, hf1⟩ := bcell b1
          have B1 : Below w.heap.size w w1 := Below.trans (by repeat (first | (with_reducible refine Below.drew ?_) | (with_reducible refine below_drewN ?_ _) | (with_reducible refine Below.alloc ?_ ?_ _) | (with_reducible refine Below.setCell ?_ ?_ _) | (with_reducible assumption) | (with_reducible exact Below.refl _ _) | omega | (simp <;> omega))) (b1.mono (by first | omega | (simp <;> omega)))
          (try simp at hz1)
          have hy1 : w.heap.size < w1.heap.size := by omega
          clear b1
          have kc1_0_0 : w1.cell? ⟨w.heap.size, 0, none⟩ = some (.int .i64 s) := (hc1 (w.heap.size) 0 (by first | omega | (simp <;> omega))).trans (by first | (simp; done) | (simp [*]; done) | (simp [*, World.cell?_alloc_at, World.cell?_alloc_past, World.cell?_alloc_lt, lt2, lt3, lt4]; done))
          have kc1_1_0 : w1.cell? ⟨w.heap.size, 1, none⟩ = some (.int .i64 l) := (hc1 (w.heap.size) 1 (by first | omega | (simp <;> omega))).trans (by first | (simp; done) | (simp [*]; done) | (simp [*, World.cell?_alloc_at, World.cell?_alloc_past, World.cell?_alloc_lt, lt2, lt3, lt4]; done))
          have kc1_2_0 : w1.cell? ⟨w.heap.size, 2, none⟩ = some (.int .i64 j) := (hc1 (w.heap.size) 2 (by first | omega | (simp <;> omega))).trans (by first | (simp; done) | (simp [*]; done) | (simp [*, World.cell?_alloc_at, World.cell?_alloc_past, World.cell?_alloc_lt, lt2, lt3, lt4]; done))
          have kc1_0_1 : w1.cell? ⟨w.heap.size + 1, 0, none⟩ = some (.int .i64 s) := (hc1 (w.heap.size + 1) 0 (by first | omega | (simp <;> omega))).trans (by first | (simp; done) | (simp [*]; done) | (simp [*, World.cell?_alloc_at, World.cell?_alloc_past, World.cell?_alloc_lt, lt2, lt3, lt4]; done))
          have kc1_1_1 : w1.cell? ⟨w.heap.size + 1, 1, none⟩ = some (.int .i64 l') := (hc1 (w.heap.size + 1) 1 (by first | omega | (simp <;> omega))).trans (by first | (simp; done) | (simp [*]; done) | (simp [*, World.cell?_alloc_at, World.cell?_alloc_past, World.cell?_alloc_lt, lt2, lt3, lt4]; done))
          have kc1_2_1 : w1.cell? ⟨w.heap.size + 1, 2, none⟩ = some (.int .i64 j') := (hc1 (w.heap.size + 1) 2 (by first | omega | (simp <;> omega))).trans (by first | (simp; done) | (simp [*]; done) | (simp [*, World.cell?_alloc_at, World.cell?_alloc_past, World.cell?_alloc_lt, lt2, lt3, lt4]; done))
          have kc1_0_2 : w1.cell? ⟨w.heap.size + 1 + 1, 0, none⟩ = some (.int .i64 0) := (hc1 (w.heap.size + 1 + 1) 0 (by first | omega | (simp <;> omega))).trans (by first | (simp; done) | (simp [*]; done) | (simp [*, World.cell?_alloc_at, World.cell?_alloc_past, World.cell?_alloc_lt, lt2, lt3, lt4]; done))
          have kc1_1_2 : w1.cell? ⟨w.heap.size + 1 + 1, 1, none⟩ = some (.int .i64 0) := (hc1 (w.heap.size + 1 + 1) 1 (by first | omega | (simp <;> omega))).trans (by first | (simp; done) | (simp [*]; done) | (simp [*, World.cell?_alloc_at, World.cell?_alloc_past, World.cell?_alloc_lt, lt2, lt3, lt4]; done))
          have kf1_0_2 : w1.frozen? ⟨w.heap.size + 1 + 1, 0, none⟩ = false := (hf1 (w.heap.size + 1 + 1) 0 (by first | omega | (simp <;> omega))).trans (by first | (simp; done) | (simp [*]; done) | (simp [*, World.frozen?_alloc_at, World.frozen?_alloc_past, lt2, lt3, lt4]; done))
          have kf1_1_2 : w1.frozen? ⟨w.heap.size + 1 + 1, 1, none⟩ = false := (hf1 (w.heap.size + 1 + 1) 1 (by first | omega | (simp <;> omega))).trans (by first | (simp; done) | (simp [*]; done) | (simp [*, World.frozen?_alloc_at, World.frozen?_alloc_past, lt2, lt3, lt4]; done))
          have hya1 : w.heap.size + 1 < w1.heap.size := by omega
          have hyb1 : w.heap.size + 1 + 1 < w1.heap.size := by omega
          go_wp2_with fail
          (with_reducible refine (HW.out _).mono ?_)
          rintro e w2 ⟨rfl, b2⟩
          have hz2 := b2.size
          obtain ⟨hc2, hf2⟩ := bcell b2
          have B2 : Below w.heap.size w w2 := Below.trans (by repeat (first | (with_reducible refine Below.drew ?_) | (with_reducible refine below_drewN ?_ _) | (with_reducible refine Below.alloc ?_ ?_ _) | (with_reducible refine Below.setCell ?_ ?_ _) | (with_reducible assumption) | (with_reducible exact Below.refl _ _) | omega | (simp <;> omega))) (b2.mono (by first | omega | (simp <;> omega)))
          (try simp at hz2)
          have hy2 : w.heap.size < w2.heap.size := by omega
          clear b2
          have kc2_0_0 : w2.cell? ⟨w.heap.size, 0, none⟩ = some (.int .i64 s) := (hc2 (w.heap.size) 0 (by first | omega | (simp <;> omega))).trans (by first | (simp; done) | (simp [*]; done) | (simp [*, World.cell?_alloc_at, World.cell?_alloc_past, World.cell?_alloc_lt, lt2, lt3, lt4]; done))
          have kc2_1_0 : w2.cell? ⟨w.heap.size, 1, none⟩ = some (.int .i64 l) := (hc2 (w.heap.size) 1 (by first | omega | (simp <;> omega))).trans (by first | (simp; done) | (simp [*]; done) | (simp [*, World.cell?_alloc_at, World.cell?_alloc_past, World.cell?_alloc_lt, lt2, lt3, lt4]; done))
          have kc2_2_0 : w2.cell? ⟨w.heap.size, 2, none⟩ = some (.int .i64 j) := (hc2 (w.heap.size) 2 (by first | omega | (simp <;> omega))).trans (by first | (simp; done) | (simp [*]; done) | (simp [*, World.cell?_alloc_at, World.cell?_alloc_past, World.cell?_alloc_lt, lt2, lt3, lt4]; done))
          have kc2_0_1 : w2.cell? ⟨w.heap.size + 1, 0, none⟩ = some (.int .i64 s) := (hc2 (w.heap.size + 1) 0 (by first | omega | (simp <;> omega))).trans (by first | (simp; done) | (simp [*]; done) | (simp [*, World.cell?_alloc_at, World.cell?_alloc_past, World.cell?_alloc_lt, lt2, lt3, lt4]; done))
          have kc2_1_1 : w2.cell? ⟨w.heap.size + 1, 1, none⟩ = some (.int .i64 l') := (hc2 (w.heap.size + 1) 1 (by first | omega | (simp <;> omega))).trans (by first | (simp; done) | (simp [*]; done) | (simp [*, World.cell?_alloc_at, World.cell?_alloc_past, World.cell?_alloc_lt, lt2, lt3, lt4]; done))
          have kc2_2_1 : w2.cell? ⟨w.heap.size + 1, 2, none⟩ = some (.int .i64 j') := (hc2 (w.heap.size + 1) 2 (by first | omega | (simp <;> omega))).trans (by first | (simp; done) | (simp [*]; done) | (simp [*, World.cell?_alloc_at, World.cell?_alloc_past, World.cell?_alloc_lt, lt2, lt3, lt4]; done))
          have kc2_0_2 : w2.cell? ⟨w.heap.size + 1 + 1, 0, none⟩ = some (.int .i64 0) := (hc2 (w.heap.size + 1 + 1) 0 (by first | omega | (simp <;> omega))).trans (by first | (simp; done) | (simp [*]; done) | (simp [*, World.cell?_alloc_at, World.cell?_alloc_past, World.cell?_alloc_lt, lt2, lt3, lt4]; done))
          have kc2_1_2 : w2.cell? ⟨w.heap.size + 1 + 1, 1, none⟩ = some (.int .i64 0) := (hc2 (w.heap.size + 1 + 1) 1 (by first | omega | (simp <;> omega))).trans (by first | (simp; done) | (simp [*]; done) | (simp [*, World.cell?_alloc_at, World.cell?_alloc_past, World.cell?_alloc_lt, lt2, lt3, lt4]; done))
          have kf2_0_2 : w2.frozen? ⟨w.heap.size + 1 + 1, 0, none⟩ = false := (hf2 (w.heap.size + 1 + 1) 0 (by first | omega | (simp <;> omega))).trans (by first | (simp; done) | (simp [*]; done) | (simp [*, World.frozen?_alloc_at, World.frozen?_alloc_past, lt2, lt3, lt4]; done))
          have kf2_1_2 : w2.frozen? ⟨w.heap.size + 1 + 1, 1, none⟩ = false := (hf2 (w.heap.size + 1 + 1) 1 (by first | omega | (simp <;> omega))).trans (by first | (simp; done) | (simp [*]; done) | (simp [*, World.frozen?_alloc_at, World.frozen?_alloc_past, lt2, lt3, lt4]; done))
          have hya2 : w.heap.size + 1 < w2.heap.size := by omega
          have hyb2 : w.heap.size + 1 + 1 < w2.heap.size := by omega
          go_wp2_with fail
          (with_reducible refine (HX.out _).mono ?_)
          rintro e w3 ⟨rfl, b3⟩
          have hz3 := b3.size
          obtain ⟨hc3, hf3⟩ := bcell b3
          have B3 : Below w.heap.size w w3 := Below.trans (by repeat (first | (with_reducible refine Below.drew ?_) | (with_reducible refine below_drewN ?_ _) | (with_reducible refine Below.alloc ?_ ?_ _) | (with_reducible refine Below.setCell ?_ ?_ _) | (with_reducible assumption) | (with_reducible exact Below.refl _ _) | omega | (simp <;> omega))) (b3.mono (by first | omega | (simp <;> omega)))
          (try simp at hz3)
          have hy3 : w.heap.size < w3.heap.size := by omega
          clear b3
          have kc3_0_0 : w3.cell? ⟨w.heap.size, 0, none⟩ = some (.int .i64 s) := (hc3 (w.heap.size) 0 (by first | omega | (simp <;> omega))).trans (by first | (simp; done) | (simp [*]; done) | (simp [*, World.cell?_alloc_at, World.cell?_alloc_past, World.cell?_alloc_lt, lt2, lt3, lt4]; done))
          have kc3_1_0 : w3.cell? ⟨w.heap.size, 1, none⟩ = some (.int .i64 l) := (hc3 (w.heap.size) 1 (by first | omega | (simp <;> omega))).trans (by first | (simp; done) | (simp [*]; done) | (simp [*, World.cell?_alloc_at, World.cell?_alloc_past, World.cell?_alloc_lt, lt2, lt3, lt4]; done))
          have kc3_2_0 : w3.cell? ⟨w.heap.size, 2, none⟩ = some (.int .i64 j) := (hc3 (w.heap.size) 2 (by first | omega | (simp <;> omega))).trans (by first | (simp; done) | (simp [*]; done) | (simp [*, World.cell?_alloc_at, World.cell?_alloc_past, World.cell?_alloc_lt, lt2, lt3, lt4]; done))
          have kc3_0_1 : w3.cell? ⟨w.heap.size + 1, 0, none⟩ = some (.int .i64 s) := (hc3 (w.heap.size + 1) 0 (by first | omega | (simp <;> omega))).trans (by first | (simp; done) | (simp [*]; done) | (simp [*, World.cell?_alloc_at, World.cell?_alloc_past, World.cell?_alloc_lt, lt2, lt3, lt4]; done))
          have kc3_1_1 : w3.cell? ⟨w.heap.size + 1, 1, none⟩ = some (.int .i64 l') := (hc3 (w.heap.size + 1) 1 (by first | omega | (simp <;> omega))).trans (by first | (simp; done) | (simp [*]; done) | (simp [*, World.cell?_alloc_at, World.cell?_alloc_past, World.cell?_alloc_lt, lt2, lt3, lt4]; done))
          have kc3_2_1 : w3.cell? ⟨w.heap.size + 1, 2, none⟩ = some (.int .i64 j') := (hc3 (w.heap.size + 1) 2 (by first | omega | (simp <;> omega))).trans (by first | (simp; done) | (simp [*]; done) | (simp [*, World.cell?_alloc_at, World.cell?_alloc_past, World.cell?_alloc_lt, lt2, lt3, lt4]; done))
          have kc3_0_2 : w3.cell? ⟨w.heap.size + 1 + 1, 0, none⟩ = some (.int .i64 0) := (hc3 (w.heap.size + 1 + 1) 0 (by first | omega | (simp <;> omega))).trans (by first | (simp; done) | (simp [*]; done) | (simp [*, World.cell?_alloc_at, World.cell?_alloc_past, World.cell?_alloc_lt, lt2, lt3, lt4]; done))
          have kc3_1_2 : w3.cell? ⟨w.heap.size + 1 + 1, 1, none⟩ = some (.int .i64 0) := (hc3 (w.heap.size + 1 + 1) 1 (by first | omega | (simp <;> omega))).trans (by first | (simp; done) | (simp [*]; done) | (simp [*, World.cell?_alloc_at, World.cell?_alloc_past, World.cell?_alloc_lt, lt2, lt3, lt4]; done))
          have kf3_0_2 : w3.frozen? ⟨w.heap.size + 1 + 1, 0, none⟩ = false := (hf3 (w.heap.size + 1 + 1) 0 (by first | omega | (simp <;> omega))).trans (by first | (simp; done) | (simp [*]; done) | (simp [*, World.frozen?_alloc_at, World.frozen?_alloc_past, lt2, lt3, lt4]; done))
          have kf3_1_2 : w3.frozen? ⟨w.heap.size + 1 + 1, 1, none⟩ = false := (hf3 (w.heap.size + 1 + 1) 1 (by first | omega | (simp <;> omega))).trans (by first | (simp; done) | (simp [*]; done) | (simp [*, World.frozen?_alloc_at, World.frozen?_alloc_past, lt2, lt3, lt4]; done))
          have hya3 : w.heap.size + 1 < w3.heap.size := by omega
          have hyb3 : w.heap.size + 1 + 1 < w3.heap.size := by omega
          go_wp2
          refine bodyPost_ret (v := .tuple #[.agg #[.int .i64 0, .int .i64 1], .bool true]) (by simp [results, Try.results31, go_sem, *, lt2, lt3, lt4, lt5, lt6]) rfl ⟨by rw [HR.out]; rfl, (by repeat (first | (with_reducible refine Below.drew ?_) | (with_reducible refine below_drewN ?_ _) | (with_reducible refine Below.alloc ?_ ?_ _) | (with_reducible refine Below.setCell ?_ ?_ _) | (with_reducible assumption) | (with_reducible exact Below.refl _ _) | omega | (simp <;> omega)))⟩
        · have hr := hS h4
          have hdom := hD h4
          have HX := Lib.hid (fun W => HO.out W _ h4)
          have hyes := @root_yes (sumS (2 * l) j s j' (2 * l') 2) 1 (denS (2 * l) j s j' (2 * l') 2)
          have hno := @root_no (sumS (2 * l) j s j' (2 * l') 2) 1 (denS (2 * l) j s j' (2 * l') 2)
          have HJ := Lib.hid (fun W => sSixJ (2 * l) j s j' (2 * l') W hdom)
          rw [root_six hdom] at hyes hno
          unfold rtV at HJ
          generalize sixR (2 * l) j s j' (2 * l') = q at *
          obtain ⟨qn, qd, qok⟩ := q
          generalize cmpI (sumS (2 * l) j s j' (2 * l') 2) 0 = sg at *
          generalize rootR (sumS (2 * l) j s j' (2 * l') 2) 1 (denS (2 * l) j s j' (2 * l') 2) = rt at *
          clear hdom hZ hS hD h4 HO
          cases qok
          · have hr2 := hno rfl
            subst hr2
            have HR := Lib.hid (hr.trans (if_neg (by simp)))
            clear hr hyes hno
            go_enter Try.func31, Try.ntmps31
            go_wp2_with fail
            (with_reducible refine (HV.out _).mono ?_)
            rintro e w1 ⟨rfl, b1⟩
            have hz1 := b1.size
            obtain ⟨hc1, hf1⟩ := bcell b1
            have B1 : Below w.heap.size w w1 := Below.trans (by repeat (first | (with_reducible refine Below.drew ?_) | (with_reducible refine below_drewN ?_ _) | (with_reducible refine Below.alloc ?_ ?_ _) | (with_reducible refine Below.setCell ?_ ?_ _) | (with_reducible assumption) | (with_reducible exact Below.refl _ _) | omega | (simp <;> omega))) (b1.mono (by first | omega | (simp <;> omega)))
            (try simp at hz1)
            have hy1 : w.heap.size < w1.heap.size := by omega
            clear b1
            have kc1_0_0 : w1.cell? ⟨w.heap.size, 0, none⟩ = some (.int .i64 s) := (hc1 (w.heap.size) 0 (by first | omega | (simp <;> omega))).trans (by first | (simp; done) | (simp [*]; done) | (simp [*, World.cell?_alloc_at, World.cell?_alloc_past, World.cell?_alloc_lt, lt2, lt3, lt4]; done))
            have kc1_1_0 : w1.cell? ⟨w.heap.size, 1, none⟩ = some (.int .i64 l) := (hc1 (w.heap.size) 1 (by first | omega | (simp <;> omega))).trans (by first | (simp; done) | (simp [*]; done) | (simp [*, World.cell?_alloc_at, World.cell?_alloc_past, World.cell?_alloc_lt, lt2, lt3, lt4]; done))
            have kc1_2_0 : w1.cell? ⟨w.heap.size, 2, none⟩ = some (.int .i64 j) := (hc1 (w.heap.size) 2 (by first | omega | (simp <;> omega))).trans (by first | (simp; done) | (simp [*]; done) | (simp [*, World.cell?_alloc_at, World.cell?_alloc_past, World.cell?_alloc_lt, lt2, lt3, lt4]; done))
            have kc1_0_1 : w1.cell? ⟨w.heap.size + 1, 0, none⟩ = some (.int .i64 s) := (hc1 (w.heap.size + 1) 0 (by first | omega | (simp <;> omega))).trans (by first | (simp; done) | (simp [*]; done) | (simp [*, World.cell?_alloc_at, World.cell?_alloc_past, World.cell?_alloc_lt, lt2, lt3, lt4]; done))
            have kc1_1_1 : w1.cell? ⟨w.heap.size + 1, 1, none⟩ = some (.int .i64 l') := (hc1 (w.heap.size + 1) 1 (by first | omega | (simp <;> omega))).trans (by first | (simp; done) | (simp [*]; done) | (simp [*, World.cell?_alloc_at, World.cell?_alloc_past, World.cell?_alloc_lt, lt2, lt3, lt4]; done))
            have kc1_2_1 : w1.cell? ⟨w.heap.size + 1, 2, none⟩ = some (.int .i64 j') := (hc1 (w.heap.size + 1) 2 (by first | omega | (simp <;> omega))).trans (by first | (simp; done) | (simp [*]; done) | (simp [*, World.cell?_alloc_at, World.cell?_alloc_past, World.cell?_alloc_lt, lt2, lt3, lt4]; done))
            have kc1_0_2 : w1.cell? ⟨w.heap.size + 1 + 1, 0, none⟩ = some (.int .i64 0) := (hc1 (w.heap.size + 1 + 1) 0 (by first | omega | (simp <;> omega))).trans (by first | (simp; done) | (simp [*]; done) | (simp [*, World.cell?_alloc_at, World.cell?_alloc_past, World.cell?_alloc_lt, lt2, lt3, lt4]; done))
            have kc1_1_2 : w1.cell? ⟨w.heap.size + 1 + 1, 1, none⟩ = some (.int .i64 0) := (hc1 (w.heap.size + 1 + 1) 1 (by first | omega | (simp <;> omega))).trans (by first | (simp; done) | (simp [*]; done) | (simp [*, World.cell?_alloc_at, World.cell?_alloc_past, World.cell?_alloc_lt, lt2, lt3, lt4]; done))
            have kf1_0_2 : w1.frozen? ⟨w.heap.size + 1 + 1, 0, none⟩ = false := (hf1 (w.heap.size + 1 + 1) 0 (by first | omega | (simp <;> omega))).trans (by first | (simp; done) | (simp [*]; done) | (simp [*, World.frozen?_alloc_at, World.frozen?_alloc_past, lt2, lt3, lt4]; done))
            have kf1_1_2 : w1.frozen? ⟨w.heap.size + 1 + 1, 1, none⟩ = false := (hf1 (w.heap.size + 1 + 1) 1 (by first | omega | (simp <;> omega))).trans (by first | (simp; done) | (simp [*]; done) | (simp [*, World.frozen?_alloc_at, World.frozen?_alloc_past, lt2, lt3, lt4]; done))
            have hya1 : w.heap.size + 1 < w1.heap.size := by omega
            have hyb1 : w.heap.size + 1 + 1 < w1.heap.size := by omega
            go_wp2_with fail
            (with_reducible refine (HW.out _).mono ?_)
            rintro e w2 ⟨rfl, b2⟩
            have hz2 := b2.size
            obtain ⟨hc2, hf2⟩ := bcell b2
            have B2 : Below w.heap.size w w2 := Below.trans (by repeat (first | (with_reducible refine Below.drew ?_) | (with_reducible refine below_drewN ?_ _) | (with_reducible refine Below.alloc ?_ ?_ _) | (with_reducible refine Below.setCell ?_ ?_ _) | (with_reducible assumption) | (with_reducible exact Below.refl _ _) | omega | (simp <;> omega))) (b2.mono (by first | omega | (simp <;> omega)))
            (try simp at hz2)
            have hy2 : w.heap.size < w2.heap.size := by omega
            clear b2
            have kc2_0_0 : w2.cell? ⟨w.heap.size, 0, none⟩ = some (.int .i64 s) := (hc2 (w.heap.size) 0 (by first | omega | (simp <;> omega))).trans (by first | (simp; done) | (simp [*]; done) | (simp [*, World.cell?_alloc_at, World.cell?_alloc_past, World.cell?_alloc_lt, lt2, lt3, lt4]; done))
            have kc2_1_0 : w2.cell? ⟨w.heap.size, 1, none⟩ = some (.int .i64 l) := (hc2 (w.heap.size) 1 (by first | omega | (simp <;> omega))).trans (by first | (simp; done) | (simp [*]; done) | (simp [*, World.cell?_alloc_at, World.cell?_alloc_past, World.cell?_alloc_lt, lt2, lt3, lt4]; done))
            have kc2_2_0 : w2.cell? ⟨w.heap.size, 2, none⟩ = some (.int .i64 j) := (hc2 (w.heap.size) 2 (by first | omega | (simp <;> omega))).trans (by first | (simp; done) | (simp [*]; done) | (simp [*, World.cell?_alloc_at, World.cell?_alloc_past, World.cell?_alloc_lt, lt2, lt3, lt4]; done))
            have kc2_0_1 : w2.cell? ⟨w.heap.size + 1, 0, none⟩ = some (.int .i64 s) := (hc2 (w.heap.size + 1) 0 (by first | omega | (simp <;> omega))).trans (by first | (simp; done) | (simp [*]; done) | (simp [*, World.cell?_alloc_at, World.cell?_alloc_past, World.cell?_alloc_lt, lt2, lt3, lt4]; done))
            have kc2_1_1 : w2.cell? ⟨w.heap.size + 1, 1, none⟩ = some (.int .i64 l') := (hc2 (w.heap.size + 1) 1 (by first | omega | (simp <;> omega))).trans (by first | (simp; done) | (simp [*]; done) | (simp [*, World.cell?_alloc_at, World.cell?_alloc_past, World.cell?_alloc_lt, lt2, lt3, lt4]; done))
            have kc2_2_1 : w2.cell? ⟨w.heap.size + 1, 2, none⟩ = some (.int .i64 j') := (hc2 (w.heap.size + 1) 2 (by first | omega | (simp <;> omega))).trans (by first | (simp; done) | (simp [*]; done) | (simp [*, World.cell?_alloc_at, World.cell?_alloc_past, World.cell?_alloc_lt, lt2, lt3, lt4]; done))
            have kc2_0_2 : w2.cell? ⟨w.heap.size + 1 + 1, 0, none⟩ = some (.int .i64 0) := (hc2 (w.heap.size + 1 + 1) 0 (by first | omega | (simp <;> omega))).trans (by first | (simp; done) | (simp [*]; done) | (simp [*, World.cell?_alloc_at, World.cell?_alloc_past, World.cell?_alloc_lt, lt2, lt3, lt4]; done))
            have kc2_1_2 : w2.cell? ⟨w.heap.size + 1 + 1, 1, none⟩ = some (.int .i64 0) := (hc2 (w.heap.size + 1 + 1) 1 (by first | omega | (simp <;> omega))).trans (by first | (simp; done) | (simp [*]; done) | (simp [*, World.cell?_alloc_at, World.cell?_alloc_past, World.cell?_alloc_lt, lt2, lt3, lt4]; done))
            have kf2_0_2 : w2.frozen? ⟨w.heap.size + 1 + 1, 0, none⟩ = false := (hf2 (w.heap.size + 1 + 1) 0 (by first | omega | (simp <;> omega))).trans (by first | (simp; done) | (simp [*]; done) | (simp [*, World.frozen?_alloc_at, World.frozen?_alloc_past, lt2, lt3, lt4]; done))
            have kf2_1_2 : w2.frozen? ⟨w.heap.size + 1 + 1, 1, none⟩ = false := (hf2 (w.heap.size + 1 + 1) 1 (by first | omega | (simp <;> omega))).trans (by first | (simp; done) | (simp [*]; done) | (simp [*, World.frozen?_alloc_at, World.frozen?_alloc_past, lt2, lt3, lt4]; done))
            have hya2 : w.heap.size + 1 < w2.heap.size := by omega
            have hyb2 : w.heap.size + 1 + 1 < w2.heap.size := by omega
            go_wp2_with fail
            (with_reducible refine (HX.out _).mono ?_)
            rintro e w3 ⟨rfl, b3⟩
            have hz3 := b3.size
            obtain ⟨hc3, hf3⟩ := bcell b3
            have B3 : Below w.heap.size w w3 := Below.trans (by repeat (first | (with_reducible refine Below.drew ?_) | (with_reducible refine below_drewN ?_ _) | (with_reducible refine Below.alloc ?_ ?_ _) | (with_reducible refine Below.setCell ?_ ?_ _) | (with_reducible assumption) | (with_reducible exact Below.refl _ _) | omega | (simp <;> omega))) (b3.mono (by first | omega | (simp <;> omega)))
            (try simp at hz3)
            have hy3 : w.heap.size < w3.heap.size := by omega
            clear b3
            have kc3_0_0 : w3.cell? ⟨w.heap.size, 0, none⟩ = some (.int .i64 s) := (hc3 (w.heap.size) 0 (by first | omega | (simp <;> omega))).trans (by first | (simp; done) | (simp [*]; done) | (simp [*, World.cell?_alloc_at, World.cell?_alloc_past, World.cell?_alloc_lt, lt2, lt3, lt4]; done))
            have kc3_1_0 : w3.cell? ⟨w.heap.size, 1, none⟩ = some (.int .i64 l) := (hc3 (w.heap.size) 1 (by first | omega | (simp <;> omega))).trans (by first | (simp; done) | (simp [*]; done) | (simp [*, World.cell?_alloc_at, World.cell?_alloc_past, World.cell?_alloc_lt, lt2, lt3, lt4]; done))
            have kc3_2_0 : w3.cell? ⟨w.heap.size, 2, none⟩ = some (.int .i64 j) := (hc3 (w.heap.size) 2 (by first | omega | (simp <;> omega))).trans (by first | (simp; done) | (simp [*]; done) | (simp [*, World.cell?_alloc_at, World.cell?_alloc_past, World.cell?_alloc_lt, lt2, lt3, lt4]; done))
            have kc3_0_1 : w3.cell? ⟨w.heap.size + 1, 0, none⟩ = some (.int .i64 s) := (hc3 (w.heap.size + 1) 0 (by first | omega | (simp <;> omega))).trans (by first | (simp; done) | (simp [*]; done) | (simp [*, World.cell?_alloc_at, World.cell?_alloc_past, World.cell?_alloc_lt, lt2, lt3, lt4]; done))
            have kc3_1_1 : w3.cell? ⟨w.heap.size + 1, 1, none⟩ = some (.int .i64 l') := (hc3 (w.heap.size + 1) 1 (by first | omega | (simp <;> omega))).trans (by first | (simp; done) | (simp [*]; done) | (simp [*, World.cell?_alloc_at, World.cell?_alloc_past, World.cell?_alloc_lt, lt2, lt3, lt4]; done))
            have kc3_2_1 : w3.cell? ⟨w.heap.size + 1, 2, none⟩ = some (.int .i64 j') := (hc3 (w.heap.size + 1) 2 (by first | omega | (simp <;> omega))).trans (by first | (simp; done) | (simp [*]; done) | (simp [*, World.cell?_alloc_at, World.cell?_alloc_past, World.cell?_alloc_lt, lt2, lt3, lt4]; done))
            have kc3_0_2 : w3.cell? ⟨w.heap.size + 1 + 1, 0, none⟩ = some (.int .i64 0) := (hc3 (w.heap.size + 1 + 1) 0 (by first | omega | (simp <;> omega))).trans (by first | (simp; done) | (simp [*]; done) | (simp [*, World.cell?_alloc_at, World.cell?_alloc_past, World.cell?_alloc_lt, lt2, lt3, lt4]; done))
            have kc3_1_2 : w3.cell? ⟨w.heap.size + 1 + 1, 1, none⟩ = some (.int .i64 0) := (hc3 (w.heap.size + 1 + 1) 1 (by first | omega | (simp <;> omega))).trans (by first | (simp; done) | (simp [*]; done) | (simp [*, World.cell?_alloc_at, World.cell?_alloc_past, World.cell?_alloc_lt, lt2, lt3, lt4]; done))
            have kf3_0_2 : w3.frozen? ⟨w.heap.size + 1 + 1, 0, none⟩ = false := (hf3 (w.heap.size + 1 + 1) 0 (by first | omega | (simp <;> omega))).trans (by first | (simp; done) | (simp [*]; done) | (simp [*, World.frozen?_alloc_at, World.frozen?_alloc_past, lt2, lt3, lt4]; done))
            have kf3_1_2 : w3.frozen? ⟨w.heap.size + 1 + 1, 1, none⟩ = false := (hf3 (w.heap.size + 1 + 1) 1 (by first | omega | (simp <;> omega))).trans (by first | (simp; done) | (simp [*]; done) | (simp [*, World.frozen?_alloc_at, World.frozen?_alloc_past, lt2, lt3, lt4]; done))
            have hya3 : w.heap.size + 1 < w3.heap.size := by omega
            have hyb3 : w.heap.size + 1 + 1 < w3.heap.size := by omega
            go_wp2_with fail
            (with_reducible refine (HJ.out _).mono ?_)
            rintro e w4 ⟨rfl, b4⟩
            have hz4 := b4.size
            obtain ⟨hc4, hf4⟩ := bcell b4
            have B4 : Below w.heap.size w w4 := Below.trans (by repeat (first | (with_reducible refine Below.drew ?_) | (with_reducible refine below_drewN ?_ _) | (with_reducible refine Below.alloc ?_ ?_ _) | (with_reducible refine Below.setCell ?_ ?_ _) | (with_reducible assumption) | (with_reducible exact Below.refl _ _) | omega | (simp <;> omega))) (b4.mono (by first | omega | (simp <;> omega)))
            (try simp at hz4)
            have hy4 : w.heap.size < w4.heap.size := by omega
            clear b4
            have kc4_0_0 : w4.cell? ⟨w.heap.size, 0, none⟩ = some (.int .i64 s) := (hc4 (w.heap.size) 0 (by first | omega | (simp <;> omega))).trans (by first | (simp; done) | (simp [*]; done) | (simp [*, World.cell?_alloc_at, World.cell?_alloc_past, World.cell?_alloc_lt, lt2, lt3, lt4]; done))
            have kc4_1_0 : w4.cell? ⟨w.heap.size, 1, none⟩ = some (.int .i64 l) := (hc4 (w.heap.size) 1 (by first | omega | (simp <;> omega))).trans (by first | (simp; done) | (simp [*]; done) | (simp [*, World.cell?_alloc_at, World.cell?_alloc_past, World.cell?_alloc_lt, lt2, lt3, lt4]; done))
            have kc4_2_0 : w4.cell? ⟨w.heap.size, 2, none⟩ = some (.int .i64 j) := (hc4 (w.heap.size) 2 (by first | omega | (simp <;> omega))).trans (by first | (simp; done) | (simp [*]; done) | (simp [*, World.cell?_alloc_at, World.cell?_alloc_past, World.cell?_alloc_lt, lt2, lt3, lt4]; done))
            have kc4_0_1 : w4.cell? ⟨w.heap.size + 1, 0, none⟩ = some (.int .i64 s) := (hc4 (w.heap.size + 1) 0 (by first | omega | (simp <;> omega))).trans (by first | (simp; done) | (simp [*]; done) | (simp [*, World.cell?_alloc_at, World.cell?_alloc_past, World.cell?_alloc_lt, lt2, lt3, lt4]; done))
            have kc4_1_1 : w4.cell? ⟨w.heap.size + 1, 1, none⟩ = some (.int .i64 l') := (hc4 (w.heap.size + 1) 1 (by first | omega | (simp <;> omega))).trans (by first | (simp; done) | (simp [*]; done) | (simp [*, World.cell?_alloc_at, World.cell?_alloc_past, World.cell?_alloc_lt, lt2, lt3, lt4]; done))
            have kc4_2_1 : w4.cell? ⟨w.heap.size + 1, 2, none⟩ = some (.int .i64 j') := (hc4 (w.heap.size + 1) 2 (by first | omega | (simp <;> omega))).trans (by first | (simp; done) | (simp [*]; done) | (simp [*, World.cell?_alloc_at, World.cell?_alloc_past, World.cell?_alloc_lt, lt2, lt3, lt4]; done))
            have kc4_0_2 : w4.cell? ⟨w.heap.size + 1 + 1, 0, none⟩ = some (.int .i64 0) := (hc4 (w.heap.size + 1 + 1) 0 (by first | omega | (simp <;> omega))).trans (by first | (simp; done) | (simp [*]; done) | (simp [*, World.cell?_alloc_at, World.cell?_alloc_past, World.cell?_alloc_lt, lt2, lt3, lt4]; done))
            have kc4_1_2 : w4.cell? ⟨w.heap.size + 1 + 1, 1, none⟩ = some (.int .i64 0) := (hc4 (w.heap.size + 1 + 1) 1 (by first | omega | (simp <;> omega))).trans (by first | (simp; done) | (simp [*]; done) | (simp [*, World.cell?_alloc_at, World.cell?_alloc_past, World.cell?_alloc_lt, lt2, lt3, lt4]; done))
            have kf4_0_2 : w4.frozen? ⟨w.heap.size + 1 + 1, 0, none⟩ = false := (hf4 (w.heap.size + 1 + 1) 0 (by first | omega | (simp <;> omega))).trans (by first | (simp; done) | (simp [*]; done) | (simp [*, World.frozen?_alloc_at, World.frozen?_alloc_past, lt2, lt3, lt4]; done))
            have kf4_1_2 : w4.frozen? ⟨w.heap.size + 1 + 1, 1, none⟩ = false := (hf4 (w.heap.size + 1 + 1) 1 (by first | omega | (simp <;> omega))).trans (by first | (simp; done) | (simp [*]; done) | (simp [*, World.frozen?_alloc_at, World.frozen?_alloc_past, lt2, lt3, lt4]; done))
            have hya4 : w.heap.size + 1 < w4.heap.size := by omega
            have hyb4 : w.heap.size + 1 + 1 < w4.heap.size := by omega
            go_wp2
            refine bodyPost_ret (v := .tuple #[.agg #[.int .i64 0, .int .i64 0], .bool false]) (by simp [results, Try.results31, go_sem, *, lt2, lt3, lt4, lt5, lt6]) rfl ⟨by rw [HR.out]; rfl, (by repeat (first | (with_reducible refine Below.drew ?_) | (with_reducible refine below_drewN ?_ _) | (with_reducible refine Below.alloc ?_ ?_ _) | (with_reducible refine Below.setCell ?_ ?_ _) | (with_reducible assumption) | (with_reducible exact Below.refl _ _) | omega | (simp <;> omega)))⟩
          · have hr2 := hyes rfl
            subst hr2
            have HR := Lib.hid (hr.trans (if_pos rfl))
            have HM := Lib.hid (fun W => sRatMul qn qd ((j + 1) * (j' + 1)) 1 W)
            clear hr hyes hno
            obtain ⟨m1, m2⟩ := mul_bds (a := j + 1) (b := j' + 1) (A := 7) (B := 7) (by omega) (by omega) (by omega) (by omega) (by omega)
            unfold roV at HM ⊢
            rw [HR.out]
            show Calls _ _ _ _ (Gives (.tuple #[.agg #[.int .i64 (mulR qn qd ((j + 1) * (j' + 1)) 1).n, .int .i64 (mulR qn qd ((j + 1) * (j' + 1)) 1).d], .bool (mulR qn qd ((j + 1) * (j' + 1)) 1).ok]) w)
            generalize mulR qn qd ((j + 1) * (j' + 1)) 1 = r at *
            obtain ⟨rn, rd, rok⟩ := r
            go_enter Try.func31, Try.ntmps31
            go_wp2_with fail
            (with_reducible refine (HV.out _).mono ?_)
            rintro e w1 ⟨rfl, b1⟩
            have hz1 := b1.size
            obtain ⟨hc1, hf1⟩ := bcell b1
            have B1 : Below w.heap.size w w1 := Below.trans (by repeat (first | (with_reducible refine Below.drew ?_) | (with_reducible refine below_drewN ?_ _) | (with_reducible refine Below.alloc ?_ ?_ _) | (with_reducible refine Below.setCell ?_ ?_ _) | (with_reducible assumption) | (with_reducible exact Below.refl _ _) | omega | (simp <;> omega))) (b1.mono (by first | omega | (simp <;> omega)))
            (try simp at hz1)
            have hy1 : w.heap.size < w1.heap.size := by omega
            clear b1
            have kc1_0_0 : w1.cell? ⟨w.heap.size, 0, none⟩ = some (.int .i64 s) := (hc1 (w.heap.size) 0 (by first | omega | (simp <;> omega))).trans (by first | (simp; done) | (simp [*]; done) | (simp [*, World.cell?_alloc_at, World.cell?_alloc_past, World.cell?_alloc_lt, lt2, lt3, lt4]; done))
            have kc1_1_0 : w1.cell? ⟨w.heap.size, 1, none⟩ = some (.int .i64 l) := (hc1 (w.heap.size) 1 (by first | omega | (simp <;> omega))).trans (by first | (simp; done) | (simp [*]; done) | (simp [*, World.cell?_alloc_at, World.cell?_alloc_past, World.cell?_alloc_lt, lt2, lt3, lt4]; done))
            have kc1_2_0 : w1.cell? ⟨w.heap.size, 2, none⟩ = some (.int .i64 j) := (hc1 (w.heap.size) 2 (by first | omega | (simp <;> omega))).trans (by first | (simp; done) | (simp [*]; done) | (simp [*, World.cell?_alloc_at, World.cell?_alloc_past, World.cell?_alloc_lt, lt2, lt3, lt4]; done))
            have kc1_0_1 : w1.cell? ⟨w.heap.size + 1, 0, none⟩ = some (.int .i64 s) := (hc1 (w.heap.size + 1) 0 (by first | omega | (simp <;> omega))).trans (by first | (simp; done) | (simp [*]; done) | (simp [*, World.cell?_alloc_at, World.cell?_alloc_past, World.cell?_alloc_lt, lt2, lt3, lt4]; done))
            have kc1_1_1 : w1.cell? ⟨w.heap.size + 1, 1, none⟩ = some (.int .i64 l') := (hc1 (w.heap.size + 1) 1 (by first | omega | (simp <;> omega))).trans (by first | (simp; done) | (simp [*]; done) | (simp [*, World.cell?_alloc_at, World.cell?_alloc_past, World.cell?_alloc_lt, lt2, lt3, lt4]; done))
            have kc1_2_1 : w1.cell? ⟨w.heap.size + 1, 2, none⟩ = some (.int .i64 j') := (hc1 (w.heap.size + 1) 2 (by first | omega | (simp <;> omega))).trans (by first | (simp; done) | (simp [*]; done) | (simp [*, World.cell?_alloc_at, World.cell?_alloc_past, World.cell?_alloc_lt, lt2, lt3, lt4]; done))
            have kc1_0_2 : w1.cell? ⟨w.heap.size + 1 + 1, 0, none⟩ = some (.int .i64 0) := (hc1 (w.heap.size + 1 + 1) 0 (by first | omega | (simp <;> omega))).trans (by first | (simp; done) | (simp [*]; done) | (simp [*, World.cell?_alloc_at, World.cell?_alloc_past, World.cell?_alloc_lt, lt2, lt3, lt4]; done))
            have kc1_1_2 : w1.cell? ⟨w.heap.size + 1 + 1, 1, none⟩ = some (.int .i64 0) := (hc1 (w.heap.size + 1 + 1) 1 (by first | omega | (simp <;> omega))).trans (by first | (simp; done) | (simp [*]; done) | (simp [*, World.cell?_alloc_at, World.cell?_alloc_past, World.cell?_alloc_lt, lt2, lt3, lt4]; done))
            have kf1_0_2 : w1.frozen? ⟨w.heap.size + 1 + 1, 0, none⟩ = false := (hf1 (w.heap.size + 1 + 1) 0 (by first | omega | (simp <;> omega))).trans (by first | (simp; done) | (simp [*]; done) | (simp [*, World.frozen?_alloc_at, World.frozen?_alloc_past, lt2, lt3, lt4]; done))
            have kf1_1_2 : w1.frozen? ⟨w.heap.size + 1 + 1, 1, none⟩ = false := (hf1 (w.heap.size + 1 + 1) 1 (by first | omega | (simp <;> omega))).trans (by first | (simp; done) | (simp [*]; done) | (simp [*, World.frozen?_alloc_at, World.frozen?_alloc_past, lt2, lt3, lt4]; done))
            have hya1 : w.heap.size + 1 < w1.heap.size := by omega
            have hyb1 : w.heap.size + 1 + 1 < w1.heap.size := by omega
            go_wp2_with fail
            (with_reducible refine (HW.out _).mono ?_)
            rintro e w2 ⟨rfl, b2⟩
            have hz2 := b2.size
            obtain ⟨hc2, hf2⟩ := bcell b2
            have B2 : Below w.heap.size w w2 := Below.trans (by repeat (first | (with_reducible refine Below.drew ?_) | (with_reducible refine below_drewN ?_ _) | (with_reducible refine Below.alloc ?_ ?_ _) | (with_reducible refine Below.setCell ?_ ?_ _) | (with_reducible assumption) | (with_reducible exact Below.refl _ _) | omega | (simp <;> omega))) (b2.mono (by first | omega | (simp <;> omega)))
            (try simp at hz2)
            have hy2 : w.heap.size < w2.heap.size := by omega
            clear b2
            have kc2_0_0 : w2.cell? ⟨w.heap.size, 0, none⟩ = some (.int .i64 s) := (hc2 (w.heap.size) 0 (by first | omega | (simp <;> omega))).trans (by first | (simp; done) | (simp [*]; done) | (simp [*, World.cell?_alloc_at, World.cell?_alloc_past, World.cell?_alloc_lt, lt2, lt3, lt4]; done))
            have kc2_1_0 : w2.cell? ⟨w.heap.size, 1, none⟩ = some (.int .i64 l) := (hc2 (w.heap.size) 1 (by first | omega | (simp <;> omega))).trans (by first | (simp; done) | (simp [*]; done) | (simp [*, World.cell?_alloc_at, World.cell?_alloc_past, World.cell?_alloc_lt, lt2, lt3, lt4]; done))
            have kc2_2_0 : w2.cell? ⟨w.heap.size, 2, none⟩ = some (.int .i64 j) := (hc2 (w.heap.size) 2 (by first | omega | (simp <;> omega))).trans (by first | (simp; done) | (simp [*]; done) | (simp [*, World.cell?_alloc_at, World.cell?_alloc_past, World.cell?_alloc_lt, lt2, lt3, lt4]; done))
            have kc2_0_1 : w2.cell? ⟨w.heap.size + 1, 0, none⟩ = some (.int .i64 s) := (hc2 (w.heap.size + 1) 0 (by first | omega | (simp <;> omega))).trans (by first | (simp; done) | (simp [*]; done) | (simp [*, World.cell?_alloc_at, World.cell?_alloc_past, World.cell?_alloc_lt, lt2, lt3, lt4]; done))
            have kc2_1_1 : w2.cell? ⟨w.heap.size + 1, 1, none⟩ = some (.int .i64 l') := (hc2 (w.heap.size + 1) 1 (by first | omega | (simp <;> omega))).trans (by first | (simp; done) | (simp [*]; done) | (simp [*, World.cell?_alloc_at, World.cell?_alloc_past, World.cell?_alloc_lt, lt2, lt3, lt4]; done))
            have kc2_2_1 : w2.cell? ⟨w.heap.size + 1, 2, none⟩ = some (.int .i64 j') := (hc2 (w.heap.size + 1) 2 (by first | omega | (simp <;> omega))).trans (by first | (simp; done) | (simp [*]; done) | (simp [*, World.cell?_alloc_at, World.cell?_alloc_past, World.cell?_alloc_lt, lt2, lt3, lt4]; done))
            have kc2_0_2 : w2.cell? ⟨w.heap.size + 1 + 1, 0, none⟩ = some (.int .i64 0) := (hc2 (w.heap.size + 1 + 1) 0 (by first | omega | (simp <;> omega))).trans (by first | (simp; done) | (simp [*]; done) | (simp [*, World.cell?_alloc_at, World.cell?_alloc_past, World.cell?_alloc_lt, lt2, lt3, lt4]; done))
            have kc2_1_2 : w2.cell? ⟨w.heap.size + 1 + 1, 1, none⟩ = some (.int .i64 0) := (hc2 (w.heap.size + 1 + 1) 1 (by first | omega | (simp <;> omega))).trans (by first | (simp; done) | (simp [*]; done) | (simp [*, World.cell?_alloc_at, World.cell?_alloc_past, World.cell?_alloc_lt, lt2, lt3, lt4]; done))
            have kf2_0_2 : w2.frozen? ⟨w.heap.size + 1 + 1, 0, none⟩ = false := (hf2 (w.heap.size + 1 + 1) 0 (by first | omega | (simp <;> omega))).trans (by first | (simp; done) | (simp [*]; done) | (simp [*, World.frozen?_alloc_at, World.frozen?_alloc_past, lt2, lt3, lt4]; done))
            have kf2_1_2 : w2.frozen? ⟨w.heap.size + 1 + 1, 1, none⟩ = false := (hf2 (w.heap.size + 1 + 1) 1 (by first | omega | (simp <;> omega))).trans (by first | (simp; done) | (simp [*]; done) | (simp [*, World.frozen?_alloc_at, World.frozen?_alloc_past, lt2, lt3, lt4]; done))
            have hya2 : w.heap.size + 1 < w2.heap.size := by omega
            have hyb2 : w.heap.size + 1 + 1 < w2.heap.size := by omega
            go_wp2_with fail
            (with_reducible refine (HX.out _).mono ?_)
            rintro e w3 ⟨rfl, b3⟩
            have hz3 := b3.size
            obtain ⟨hc3, hf3⟩ := bcell b3
            have B3 : Below w.heap.size w w3 := Below.trans (by repeat (first | (with_reducible refine Below.drew ?_) | (with_reducible refine below_drewN ?_ _) | (with_reducible refine Below.alloc ?_ ?_ _) | (with_reducible refine Below.setCell ?_ ?_ _) | (with_reducible assumption) | (with_reducible exact Below.refl _ _) | omega | (simp <;> omega))) (b3.mono (by first | omega | (simp <;> omega)))
            (try simp at hz3)
            have hy3 : w.heap.size < w3.heap.size := by omega
            clear b3
            have kc3_0_0 : w3.cell? ⟨w.heap.size, 0, none⟩ = some (.int .i64 s) := (hc3 (w.heap.size) 0 (by first | omega | (simp <;> omega))).trans (by first | (simp; done) | (simp [*]; done) | (simp [*, World.cell?_alloc_at, World.cell?_alloc_past, World.cell?_alloc_lt, lt2, lt3, lt4]; done))
            have kc3_1_0 : w3.cell? ⟨w.heap.size, 1, none⟩ = some (.int .i64 l) := (hc3 (w.heap.size) 1 (by first | omega | (simp <;> omega))).trans (by first | (simp; done) | (simp [*]; done) | (simp [*, World.cell?_alloc_at, World.cell?_alloc_past, World.cell?_alloc_lt, lt2, lt3, lt4]; done))
            have kc3_2_0 : w3.cell? ⟨w.heap.size, 2, none⟩ = some (.int .i64 j) := (hc3 (w.heap.size) 2 (by first | omega | (simp <;> omega))).trans (by first | (simp; done) | (simp [*]; done) | (simp [*, World.cell?_alloc_at, World.cell?_alloc_past, World.cell?_alloc_lt, lt2, lt3, lt4]; done))
            have kc3_0_1 : w3.cell? ⟨w.heap.size + 1, 0, none⟩ = some (.int .i64 s) := (hc3 (w.heap.size + 1) 0 (by first | omega | (simp <;> omega))).trans (by first | (simp; done) | (simp [*]; done) | (simp [*, World.cell?_alloc_at, World.cell?_alloc_past, World.cell?_alloc_lt, lt2, lt3, lt4]; done))
            have kc3_1_1 : w3.cell? ⟨w.heap.size + 1, 1, none⟩ = some (.int .i64 l') := (hc3 (w.heap.size + 1) 1 (by first | omega | (simp <;> omega))).trans (by first | (simp; done) | (simp [*]; done) | (simp [*, World.cell?_alloc_at, World.cell?_alloc_past, World.cell?_alloc_lt, lt2, lt3, lt4]; done))
            have kc3_2_1 : w3.cell? ⟨w.heap.size + 1, 2, none⟩ = some (.int .i64 j') := (hc3 (w.heap.size + 1) 2 (by first | omega | (simp <;> omega))).trans (by first | (simp; done) | (simp [*]; done) | (simp [*, World.cell?_alloc_at, World.cell?_alloc_past, World.cell?_alloc_lt, lt2, lt3, lt4]; done))
            have kc3_0_2 : w3.cell? ⟨w.heap.size + 1 + 1, 0, none⟩ = some (.int .i64 0) := (hc3 (w.heap.size + 1 + 1) 0 (by first | omega | (simp <;> omega))).trans (by first | (simp; done) | (simp [*]; done) | (simp [*, World.cell?_alloc_at, World.cell?_alloc_past, World.cell?_alloc_lt, lt2, lt3, lt4]; done))
            have kc3_1_2 : w3.cell? ⟨w.heap.size + 1 + 1, 1, none⟩ = some (.int .i64 0) := (hc3 (w.heap.size + 1 + 1) 1 (by first | omega | (simp <;> omega))).trans (by first | (simp; done) | (simp [*]; done) | (simp [*, World.cell?_alloc_at, World.cell?_alloc_past, World.cell?_alloc_lt, lt2, lt3, lt4]; done))
            have kf3_0_2 : w3.frozen? ⟨w.heap.size + 1 + 1, 0, none⟩ = false := (hf3 (w.heap.size + 1 + 1) 0 (by first | omega | (simp <;> omega))).trans (by first | (simp; done) | (simp [*]; done) | (simp [*, World.frozen?_alloc_at, World.frozen?_alloc_past, lt2, lt3, lt4]; done))
            have kf3_1_2 : w3.frozen? ⟨w.heap.size + 1 + 1, 1, none⟩ = false := (hf3 (w.heap.size + 1 + 1) 1 (by first | omega | (simp <;> omega))).trans (by first | (simp; done) | (simp [*]; done) | (simp [*, World.frozen?_alloc_at, World.frozen?_alloc_past, lt2, lt3, lt4]; done))
            have hya3 : w.heap.size + 1 < w3.heap.size := by omega
            have hyb3 : w.heap.size + 1 + 1 < w3.heap.size := by omega
            go_wp2_with fail
            (with_reducible refine (HJ.out _).mono ?_)
            rintro e w4 ⟨rfl, b4⟩
            have hz4 := b4.size
            obtain ⟨hc4, hf4⟩ := bcell b4
            have B4 : Below w.heap.size w w4 := Below.trans (by repeat (first | (with_reducible refine Below.drew ?_) | (with_reducible refine below_drewN ?_ _) | (with_reducible refine Below.alloc ?_ ?_ _) | (with_reducible refine Below.setCell ?_ ?_ _) | (with_reducible assumption) | (with_reducible exact Below.refl _ _) | omega | (simp <;> omega))) (b4.mono (by first | omega | (simp <;> omega)))
            (try simp at hz4)
            have hy4 : w.heap.size < w4.heap.size := by omega
            clear b4
            have kc4_0_0 : w4.cell? ⟨w.heap.size, 0, none⟩ = some (.int .i64 s) := (hc4 (w.heap.size) 0 (by first | omega | (simp <;> omega))).trans (by first | (simp; done) | (simp [*]; done) | (simp [*, World.cell?_alloc_at, World.cell?_alloc_past, World.cell?_alloc_lt, lt2, lt3, lt4]; done))
            have kc4_1_0 : w4.cell? ⟨w.heap.size, 1, none⟩ = some (.int .i64 l) := (hc4 (w.heap.size) 1 (by first | omega | (simp <;> omega))).trans (by first | (simp; done) | (simp [*]; done) | (simp [*, World.cell?_alloc_at, World.cell?_alloc_past, World.cell?_alloc_lt, lt2, lt3, lt4]; done))
            have kc4_2_0 : w4.cell? ⟨w.heap.size, 2, none⟩ = some (.int .i64 j) := (hc4 (w.heap.size) 2 (by first | omega | (simp <;> omega))).trans (by first | (simp; done) | (simp [*]; done) | (simp [*, World.cell?_alloc_at, World.cell?_alloc_past, World.cell?_alloc_lt, lt2, lt3, lt4]; done))
            have kc4_0_1 : w4.cell? ⟨w.heap.size + 1, 0, none⟩ = some (.int .i64 s) := (hc4 (w.heap.size + 1) 0 (by first | omega | (simp <;> omega))).trans (by first | (simp; done) | (simp [*]; done) | (simp [*, World.cell?_alloc_at, World.cell?_alloc_past, World.cell?_alloc_lt, lt2, lt3, lt4]; done))
            have kc4_1_1 : w4.cell? ⟨w.heap.size + 1, 1, none⟩ = some (.int .i64 l') := (hc4 (w.heap.size + 1) 1 (by first | omega | (simp <;> omega))).trans (by first | (simp; done) | (simp [*]; done) | (simp [*, World.cell?_alloc_at, World.cell?_alloc_past, World.cell?_alloc_lt, lt2, lt3, lt4]; done))
            have kc4_2_1 : w4.cell? ⟨w.heap.size + 1, 2, none⟩ = some (.int .i64 j') := (hc4 (w.heap.size + 1) 2 (by first | omega | (simp <;> omega))).trans (by first | (simp; done) | (simp [*]; done) | (simp [*, World.cell?_alloc_at, World.cell?_alloc_past, World.cell?_alloc_lt, lt2, lt3, lt4]; done))
            have kc4_0_2 : w4.cell? ⟨w.heap.size + 1 + 1, 0, none⟩ = some (.int .i64 0) := (hc4 (w.heap.size + 1 + 1) 0 (by first | omega | (simp <;> omega))).trans (by first | (simp; done) | (simp [*]; done) | (simp [*, World.cell?_alloc_at, World.cell?_alloc_past, World.cell?_alloc_lt, lt2, lt3, lt4]; done))
            have kc4_1_2 : w4.cell? ⟨w.heap.size + 1 + 1, 1, none⟩ = some (.int .i64 0) := (hc4 (w.heap.size + 1 + 1) 1 (by first | omega | (simp <;> omega))).trans (by first | (simp; done) | (simp [*]; done) | (simp [*, World.cell?_alloc_at, World.cell?_alloc_past, World.cell?_alloc_lt, lt2, lt3, lt4]; done))
            have kf4_0_2 : w4.frozen? ⟨w.heap.size + 1 + 1, 0, none⟩ = false := (hf4 (w.heap.size + 1 + 1) 0 (by first | omega | (simp <;> omega))).trans (by first | (simp; done) | (simp [*]; done) | (simp [*, World.frozen?_alloc_at, World.frozen?_alloc_past, lt2, lt3, lt4]; done))
            have kf4_1_2 : w4.frozen? ⟨w.heap.size + 1 + 1, 1, none⟩ = false := (hf4 (w.heap.size + 1 + 1) 1 (by first | omega | (simp <;> omega))).trans (by first | (simp; done) | (simp [*]; done) | (simp [*, World.frozen?_alloc_at, World.frozen?_alloc_past, lt2, lt3, lt4]; done))
            have hya4 : w.heap.size + 1 < w4.heap.size := by omega
            have hyb4 : w.heap.size + 1 + 1 < w4.heap.size := by omega
            go_wp2_with fail
            (with_reducible refine (HM.out _).mono ?_)
            rintro e w5 ⟨rfl, b5⟩
            have hz5 := b5.size
            obtain ⟨hc5, hf5⟩ := bcell b5
            have B5 : Below w.heap.size w w5 := Below.trans (by repeat (first | (with_reducible refine Below.drew ?_) | (with_reducible refine below_drewN ?_ _) | (with_reducible refine Below.alloc ?_ ?_ _) | (with_reducible refine Below.setCell ?_ ?_ _) | (with_reducible assumption) | (with_reducible exact Below.refl _ _) | omega | (simp <;> omega))) (b5.mono (by first | omega | (simp <;> omega)))
            (try simp at hz5)
            have hy5 : w.heap.size < w5.heap.size := by omega
            clear b5
            have kc5_0_0 : w5.cell? ⟨w.heap.size, 0, none⟩ = some (.int .i64 s) := (hc5 (w.heap.size) 0 (by first | omega | (simp <;> omega))).trans (by first | (simp; done) | (simp [*]; done) | (simp [*, World.cell?_alloc_at, World.cell?_alloc_past, World.cell?_alloc_lt, lt2, lt3, lt4]; done))
            have kc5_1_0 : w5.cell? ⟨w.heap.size, 1, none⟩ = some (.int .i64 l) := (hc5 (w.heap.size) 1 (by first | omega | (simp <;> omega))).trans (by first | (simp; done) | (simp [*]; done) | (simp [*, World.cell?_alloc_at, World.cell?_alloc_past, World.cell?_alloc_lt, lt2, lt3, lt4]; done))
            have kc5_2_0 : w5.cell? ⟨w.heap.size, 2, none⟩ = some (.int .i64 j) := (hc5 (w.heap.size) 2 (by first | omega | (simp <;> omega))).trans (by first | (simp; done) | (simp [*]; done) | (simp [*, World.cell?_alloc_at, World.cell?_alloc_past, World.cell?_alloc_lt, lt2, lt3, lt4]; done))
            have kc5_0_1 : w5.cell? ⟨w.heap.size + 1, 0, none⟩ = some (.int .i64 s) := (hc5 (w.heap.size + 1) 0 (by first | omega | (simp <;> omega))).trans (by first | (simp; done) | (simp [*]; done) | (simp [*, World.cell?_alloc_at, World.cell?_alloc_past, World.cell?_alloc_lt, lt2, lt3, lt4]; done))
            have kc5_1_1 : w5.cell? ⟨w.heap.size + 1, 1, none⟩ = some (.int .i64 l') := (hc5 (w.heap.size + 1) 1 (by first | omega | (simp <;> omega))).trans (by first | (simp; done) | (simp [*]; done) | (simp [*, World.cell?_alloc_at, World.cell?_alloc_past, World.cell?_alloc_lt, lt2, lt3, lt4]; done))
            have kc5_2_1 : w5.cell? ⟨w.heap.size + 1, 2, none⟩ = some (.int .i64 j') := (hc5 (w.heap.size + 1) 2 (by first | omega | (simp <;> omega))).trans (by first | (simp; done) | (simp [*]; done) | (simp [*, World.cell?_alloc_at, World.cell?_alloc_past, World.cell?_alloc_lt, lt2, lt3, lt4]; done))
            have kc5_0_2 : w5.cell? ⟨w.heap.size + 1 + 1, 0, none⟩ = some (.int .i64 0) := (hc5 (w.heap.size + 1 + 1) 0 (by first | omega | (simp <;> omega))).trans (by first | (simp; done) | (simp [*]; done) | (simp [*, World.cell?_alloc_at, World.cell?_alloc_past, World.cell?_alloc_lt, lt2, lt3, lt4]; done))
            have kc5_1_2 : w5.cell? ⟨w.heap.size + 1 + 1, 1, none⟩ = some (.int .i64 0) := (hc5 (w.heap.size + 1 + 1) 1 (by first | omega | (simp <;> omega))).trans (by first | (simp; done) | (simp [*]; done) | (simp [*, World.cell?_alloc_at, World.cell?_alloc_past, World.cell?_alloc_lt, lt2, lt3, lt4]; done))
            have kf5_0_2 : w5.frozen? ⟨w.heap.size + 1 + 1, 0, none⟩ = false := (hf5 (w.heap.size + 1 + 1) 0 (by first | omega | (simp <;> omega))).trans (by first | (simp; done) | (simp [*]; done) | (simp [*, World.frozen?_alloc_at, World.frozen?_alloc_past, lt2, lt3, lt4]; done))
            have kf5_1_2 : w5.frozen? ⟨w.heap.size + 1 + 1, 1, none⟩ = false := (hf5 (w.heap.size + 1 + 1) 1 (by first | omega | (simp <;> omega))).trans (by first | (simp; done) | (simp [*]; done) | (simp [*, World.frozen?_alloc_at, World.frozen?_alloc_past, lt2, lt3, lt4]; done))
            have hya5 : w.heap.size + 1 < w5.heap.size := by omega
            have hyb5 : w.heap.size + 1 + 1 < w5.heap.size := by omega
            go_wp2
            refine bodyPost_ret (v := .tuple #[.agg #[.int .i64 rn, .int .i64 rd], .bool rok]) (by simp [results, Try.results31, go_sem, *, lt2, lt3, lt4, lt5, lt6]) rfl ⟨rfl, (by repeat (first | (with_reducible refine Below.drew ?_) | (with_reducible refine below_drewN ?_ _) | (with_reducible refine Below.alloc ?_ ?_ _) | (with_reducible refine Below.setCell ?_ ?_ _) | (with_reducible assumption) | (with_reducible exact Below.refl _ _) | omega | (simp <;> omega)))⟩
      · have h3' : (s != s') = true := by simp [h3]
        have HR := Lib.hid (line_no3 l j l' j' h3)
        have HV := Lib.hid (fun W => sSmall_is W h1)
        have HW := Lib.hid (fun W => sSmall_is W h2)
        clear h1 h2
        go_enter Try.func31, Try.ntmps31
        go_wp2_with fail
        (with_reducible refine (HV.out _).mono ?_)
        rintro e w1 ⟨rfl, b1⟩
        have hz1 := b1.size
        obtain ⟨hc1, hf1⟩ := bcell b1
        have B1 : Below w.heap.size w w1 := Below.trans (by repeat (first | (with_reducible refine Below.drew ?_) | (with_reducible refine below_drewN ?_ _) | (with_reducible refine Below.alloc ?_ ?_ _) | (with_reducible refine Below.setCell ?_ ?_ _) | (with_reducible assumption) | (with_reducible exact Below.refl _ _) | omega | (simp <;> omega))) (b1.mono (by first | omega | (simp <;> omega)))
        (try simp at hz1)
        have hy1 : w.heap.size < w1.heap.size := by omega
        clear b1
        have kc1_0_0 : w1.cell? ⟨w.heap.size, 0, none⟩ = some (.int .i64 s) := (hc1 (w.heap.size) 0 (by first | omega | (simp <;> omega))).trans (by first | (simp; done) | (simp [*]; done) | (simp [*, World.cell?_alloc_at, World.cell?_alloc_past, World.cell?_alloc_lt, lt2, lt3, lt4]; done))
        have kc1_1_0 : w1.cell? ⟨w.heap.size, 1, none⟩ = some (.int .i64 l) := (hc1 (w.heap.size) 1 (by first | omega | (simp <;> omega))).trans (by first | (simp; done) | (simp [*]; done) | (simp [*, World.cell?_alloc_at, World.cell?_alloc_past, World.cell?_alloc_lt, lt2, lt3, lt4]; done))
        have kc1_2_0 : w1.cell? ⟨w.heap.size, 2, none⟩ = some (.int .i64 j) := (hc1 (w.heap.size) 2 (by first | omega | (simp <;> omega))).trans (by first | (simp; done) | (simp [*]; done) | (simp [*, World.cell?_alloc_at, World.cell?_alloc_past, World.cell?_alloc_lt, lt2, lt3, lt4]; done))
        have kc1_0_1 : w1.cell? ⟨w.heap.size + 1, 0, none⟩ = some (.int .i64 s') := (hc1 (w.heap.size + 1) 0 (by first | omega | (simp <;> omega))).trans (by first | (simp; done) | (simp [*]; done) | (simp [*, World.cell?_alloc_at, World.cell?_alloc_past, World.cell?_alloc_lt, lt2, lt3, lt4]; done))
        have kc1_1_1 : w1.cell? ⟨w.heap.size + 1, 1, none⟩ = some (.int .i64 l') := (hc1 (w.heap.size + 1) 1 (by first | omega | (simp <;> omega))).trans (by first | (simp; done) | (simp [*]; done) | (simp [*, World.cell?_alloc_at, World.cell?_alloc_past, World.cell?_alloc_lt, lt2, lt3, lt4]; done))
        have kc1_2_1 : w1.cell? ⟨w.heap.size + 1, 2, none⟩ = some (.int .i64 j') := (hc1 (w.heap.size + 1) 2 (by first | omega | (simp <;> omega))).trans (by first | (simp; done) | (simp [*]; done) | (simp [*, World.cell?_alloc_at, World.cell?_alloc_past, World.cell?_alloc_lt, lt2, lt3, lt4]; done))
        have kc1_0_2 : w1.cell? ⟨w.heap.size + 1 + 1, 0, none⟩ = some (.int .i64 0) := (hc1 (w.heap.size + 1 + 1) 0 (by first | omega | (simp <;> omega))).trans (by first | (simp; done) | (simp [*]; done) | (simp [*, World.cell?_alloc_at, World.cell?_alloc_past, World.cell?_alloc_lt, lt2, lt3, lt4]; done))
        have kc1_1_2 : w1.cell? ⟨w.heap.size + 1 + 1, 1, none⟩ = some (.int .i64 0) := (hc1 (w.heap.size + 1 + 1) 1 (by first | omega | (simp <;> omega))).trans (by first | (simp; done) | (simp [*]; done) | (simp [*, World.cell?_alloc_at, World.cell?_alloc_past, World.cell?_alloc_lt, lt2, lt3, lt4]; done))
        have kf1_0_2 : w1.frozen? ⟨w.heap.size + 1 + 1, 0, none⟩ = false := (hf1 (w.heap.size + 1 + 1) 0 (by first | omega | (simp <;> omega))).trans (by first | (simp; done) | (simp [*]; done) | (simp [*, World.frozen?_alloc_at, World.frozen?_alloc_past, lt2, lt3, lt4]; done))
        have kf1_1_2 : w1.frozen? ⟨w.heap.size + 1 + 1, 1, none⟩ = false := (hf1 (w.heap.size + 1 + 1) 1 (by first | omega | (simp <;> omega))).trans (by first | (simp; done) | (simp [*]; done) | (simp [*, World.frozen?_alloc_at, World.frozen?_alloc_past, lt2, lt3, lt4]; done))
        have hya1 : w.heap.size + 1 < w1.heap.size := by omega
        have hyb1 : w.heap.size + 1 + 1 < w1.heap.size := by omega
        go_wp2_with fail
        (with_reducible refine (HW.out _).mono ?_)
        rintro e w2 ⟨rfl, b2⟩
        have hz2 := b2.size
        obtain ⟨hc2, hf2⟩ := bcell b2
        have B2 : Below w.heap.size w w2 := Below.trans (by repeat (first | (with_reducible refine Below.drew ?_) | (with_reducible refine below_drewN ?_ _) | (with_reducible refine Below.alloc ?_ ?_ _) | (with_reducible refine Below.setCell ?_ ?_ _) | (with_reducible assumption) | (with_reducible exact Below.refl _ _) | omega | (simp <;> omega))) (b2.mono (by first | omega | (simp <;> omega)))
        (try simp at hz2)
        have hy2 : w.heap.size < w2.heap.size := by omega
        clear b2
        have kc2_0_0 : w2.cell? ⟨w.heap.size, 0, none⟩ = some (.int .i64 s) := (hc2 (w.heap.size) 0 (by first | omega | (simp <;> omega))).trans (by first | (simp; done) | (simp [*]; done) | (simp [*, World.cell?_alloc_at, World.cell?_alloc_past, World.cell?_alloc_lt, lt2, lt3, lt4]; done))
        have kc2_1_0 : w2.cell? ⟨w.heap.size, 1, none⟩ = some (.int .i64 l) := (hc2 (w.heap.size) 1 (by first | omega | (simp <;> omega))).trans (by first | (simp; done) | (simp [*]; done) | (simp [*, World.cell?_alloc_at, World.cell?_alloc_past, World.cell?_alloc_lt, lt2, lt3, lt4]; done))
        have kc2_2_0 : w2.cell? ⟨w.heap.size, 2, none⟩ = some (.int .i64 j) := (hc2 (w.heap.size) 2 (by first | omega | (simp <;> omega))).trans (by first | (simp; done) | (simp [*]; done) | (simp [*, World.cell?_alloc_at, World.cell?_alloc_past, World.cell?_alloc_lt, lt2, lt3, lt4]; done))
        have kc2_0_1 : w2.cell? ⟨w.heap.size + 1, 0, none⟩ = some (.int .i64 s') := (hc2 (w.heap.size + 1) 0 (by first | omega | (simp <;> omega))).trans (by first | (simp; done) | (simp [*]; done) | (simp [*, World.cell?_alloc_at, World.cell?_alloc_past, World.cell?_alloc_lt, lt2, lt3, lt4]; done))
        have kc2_1_1 : w2.cell? ⟨w.heap.size + 1, 1, none⟩ = some (.int .i64 l') := (hc2 (w.heap.size + 1) 1 (by first | omega | (simp <;> omega))).trans (by first | (simp; done) | (simp [*]; done) | (simp [*, World.cell?_alloc_at, World.cell?_alloc_past, World.cell?_alloc_lt, lt2, lt3, lt4]; done))
        have kc2_2_1 : w2.cell? ⟨w.heap.size + 1, 2, none⟩ = some (.int .i64 j') := (hc2 (w.heap.size + 1) 2 (by first | omega | (simp <;> omega))).trans (by first | (simp; done) | (simp [*]; done) | (simp [*, World.cell?_alloc_at, World.cell?_alloc_past, World.cell?_alloc_lt, lt2, lt3, lt4]; done))
        have kc2_0_2 : w2.cell? ⟨w.heap.size + 1 + 1, 0, none⟩ = some (.int .i64 0) := (hc2 (w.heap.size + 1 + 1) 0 (by first | omega | (simp <;> omega))).trans (by first | (simp; done) | (simp [*]; done) | (simp [*, World.cell?_alloc_at, World.cell?_alloc_past, World.cell?_alloc_lt, lt2, lt3, lt4]; done))
        have kc2_1_2 : w2.cell? ⟨w.heap.size + 1 + 1, 1, none⟩ = some (.int .i64 0) := (hc2 (w.heap.size + 1 + 1) 1 (by first | omega | (simp <;> omega))).trans (by first | (simp; done) | (simp [*]; done) | (simp [*, World.cell?_alloc_at, World.cell?_alloc_past, World.cell?_alloc_lt, lt2, lt3, lt4]; done))
        have kf2_0_2 : w2.frozen? ⟨w.heap.size + 1 + 1, 0, none⟩ = false := (hf2 (w.heap.size + 1 + 1) 0 (by first | omega | (simp <;> omega))).trans (by first | (simp; done) | (simp [*]; done) | (simp [*, World.frozen?_alloc_at, World.frozen?_alloc_past, lt2, lt3, lt4]; done))
        have kf2_1_2 : w2.frozen? ⟨w.heap.size + 1 + 1, 1, none⟩ = false := (hf2 (w.heap.size + 1 + 1) 1 (by first | omega | (simp <;> omega))).trans (by first | (simp; done) | (simp [*]; done) | (simp [*, World.frozen?_alloc_at, World.frozen?_alloc_past, lt2, lt3, lt4]; done))
        have hya2 : w.heap.size + 1 < w2.heap.size := by omega
        have hyb2 : w.heap.size + 1 + 1 < w2.heap.size := by omega
        go_wp2
        refine bodyPost_ret (v := .tuple #[.agg #[.int .i64 0, .int .i64 0], .bool false]) (by simp [results, Try.results31, go_sem, *, lt2, lt3, lt4, lt5, lt6]) rfl ⟨by rw [HR.out]; rfl, (by repeat (first | (with_reducible refine Below.drew ?_) | (with_reducible refine below_drewN ?_ _) | (with_reducible refine Below.alloc ?_ ?_ _) | (with_reducible refine Below.setCell ?_ ?_ _) | (with_reducible assumption) | (with_reducible exact Below.refl _ _) | omega | (simp <;> omega)))⟩

end Go.Proofs.Ythinhhfegflmmaa.LineS
