/-
  The walk of the law FnStrengthSum.
-/
import Derived.Test.YthinhhfegflmmaaStrW
import Derived.Test.YthinhhfegflmmaaOpenRows
namespace Go.Proofs.Ythinhhfegflmmaa.WFnStrengthSum
open Go.RowKit Go.Proofs.Ythinhhfegflmmaa.RatP Go.Proofs.Ythinhhfegflmmaa.Rat Go.Proofs.Ythinhhfegflmmaa.ChoP Go.Proofs.Ythinhhfegflmmaa.StrP Go.Proofs.Ythinhhfegflmmaa.Spin Go.Proofs.Ythinhhfegflmmaa.Row Go.Proofs.Ythinhhfegflmmaa.Coupled Go.Proofs.Ythinhhfegflmmaa.Later Go.Proofs.Ythinhhfegflmmaa.Two Go.Proofs.Ythinhhfegflmmaa.Rd Go.Proofs.Ythinhhfegflmmaa.StrengthS Go.Proofs.Ythinhhfegflmmaa.StrengthI Go.Proofs.Ythinhhfegflmmaa.DrawStr Go.Proofs.Ythinhhfegflmmaa.StrW Go.Proofs.Ythinhhfegflmmaa.WFnAllowedStrength
set_option linter.unusedVariables false
set_option linter.unusedSimpArgs false

set_option maxRecDepth 100000 in
set_option maxHeartbeats 4000000 in
theorem fnStrengthSum (a : Option Addr) (n c : Nat) (zs : List Int) (w0 : World) (h : IsRow .u8 w0 a n c zs) :
    Calls Try.prog 4 #[.slice a n c] w0 (Yes w0) := by
  have HO := Lib.hid (drawStrengthSum a n c zs w0 h)
  clear h
  by_cases hn : 1048576 < n
  · go_enter Try.func4, Try.ntmps4
    go_wp2_with fail
    go_ret
    exact ⟨rfl, Below.refl _ _⟩
  · go_enter Try.func4, Try.ntmps4
    go_wp2_with fail
    refine HO.out.mono ?_
    rintro e w ⟨s1, l1, j1, s2, l2, j2, hb1, hb2, rfl, hb0⟩
    clear HO hn
    have HI := Lib.hid (fun W => iStrengthSum s1 l1 j1 s2 l2 W sumGives)
    have HS := Lib.hid (fun W => sStrengthSum s1 l1 j1 s2 l2 W)
    have HW := Lib.hid (fun n W => lwhole n W)
    have hfacts := @sum_facts s1 l1 j1 s2 l2 (by omega) (by omega) (by omega)
    have hl1 : 0 ≤ l1 ∧ l1 ≤ 2 := (by omega)
    have hl2 : 0 ≤ l2 ∧ l2 ≤ 4 := (by omega)
    clear hb1 hb2
    unfold roV at HI HS
    generalize strSum s1 l1 j1 s2 l2 = r at *
    obtain ⟨rn, rd, rok⟩ := r
    cases rok
    · clear hfacts HW
      go_wp2_with fail
      (with_reducible refine (HI.out _).mono ?_)
      rintro e w2 ⟨rfl, b2⟩
      have hz2 := b2.size
      obtain ⟨hc2, hf2⟩ := bcell b2
      have B2 : Below w.heap.size w w2 := Below.trans (by repeat (first | (with_reducible refine Below.drew ?_) | (with_reducible refine below_drewN ?_ _) | (with_reducible refine Below.alloc ?_ ?_ _) | (with_reducible refine Below.setCell ?_ ?_ _) | (with_reducible assumption) | (with_reducible exact Below.refl _ _) | omega | (simp <;> omega))) (b2.mono (by first | omega | (simp <;> omega)))
      (try simp at hz2)
      have hy2 : w.heap.size < w2.heap.size := by omega
      clear b2
      have hx2 : w.heap.size + 1 < w2.heap.size := by omega
      go_wp2_with fail
      (with_reducible refine (HS.out _).mono ?_)
      rintro e w3 ⟨rfl, b3⟩
      have hz3 := b3.size
      obtain ⟨hc3, hf3⟩ := bcell b3
      have B3 : Below w.heap.size w w3 := Below.trans (by repeat (first | (with_reducible refine Below.drew ?_) | (with_reducible refine below_drewN ?_ _) | (with_reducible refine Below.alloc ?_ ?_ _) | (with_reducible refine Below.setCell ?_ ?_ _) | (with_reducible assumption) | (with_reducible exact Below.refl _ _) | omega | (simp <;> omega))) (b3.mono (by first | omega | (simp <;> omega)))
      (try simp at hz3)
      have hy3 : w.heap.size < w3.heap.size := by omega
      clear b3
      have hx3 : w.heap.size + 1 < w3.heap.size := by omega
      have hq3 : w2.heap.size < w3.heap.size := by omega
      have kc3_0_0 : w3.cell? ⟨w2.heap.size, 0, none⟩ = some (.int .i64 rn) := (hc3 (w2.heap.size) 0 (by first | omega | (simp <;> omega))).trans (by first | (simp; done) | (simp [*]; done) | (simp [*, World.cell?_alloc_at, World.cell?_alloc_past, World.cell?_alloc_lt, lt2, lt3, lt4]; done))
      have kc3_1_0 : w3.cell? ⟨w2.heap.size, 1, none⟩ = some (.int .i64 rd) := (hc3 (w2.heap.size) 1 (by first | omega | (simp <;> omega))).trans (by first | (simp; done) | (simp [*]; done) | (simp [*, World.cell?_alloc_at, World.cell?_alloc_past, World.cell?_alloc_lt, lt2, lt3, lt4]; done))
      go_wp2
      all_goals go_ret
      all_goals exact ⟨by simp, hb0.trans (Below.mono (by repeat (first | (with_reducible refine Below.drew ?_) | (with_reducible refine below_drewN ?_ _) | (with_reducible refine Below.alloc ?_ ?_ _) | (with_reducible refine Below.setCell ?_ ?_ _) | (with_reducible assumption) | (with_reducible exact Below.refl _ _) | omega | (simp <;> omega))) hb0.size)⟩
    · have hfs := hfacts rfl
      clear hfacts
      obtain ⟨hj1, hif⟩ := hfs
      by_cases g1 : l1 - l2 < -1
      · rw [if_pos (.inl g1)] at hif
        injection hif with hif1 hif2
        subst hif1 hif2
        go_wp2_with fail
        (with_reducible refine (HI.out _).mono ?_)
        rintro e w2 ⟨rfl, b2⟩
        have hz2 := b2.size
        obtain ⟨hc2, hf2⟩ := bcell b2
        have B2 : Below w.heap.size w w2 := Below.trans (by repeat (first | (with_reducible refine Below.drew ?_) | (with_reducible refine below_drewN ?_ _) | (with_reducible refine Below.alloc ?_ ?_ _) | (with_reducible refine Below.setCell ?_ ?_ _) | (with_reducible assumption) | (with_reducible exact Below.refl _ _) | omega | (simp <;> omega))) (b2.mono (by first | omega | (simp <;> omega)))
        (try simp at hz2)
        have hy2 : w.heap.size < w2.heap.size := by omega
        clear b2
        have hx2 : w.heap.size + 1 < w2.heap.size := by omega
        have kc2_0_0 : w2.cell? ⟨w.heap.size, 0, none⟩ = some (.int .i64 s1) := (hc2 (w.heap.size) 0 (by first | omega | (simp <;> omega))).trans (by first | (simp; done) | (simp [*]; done) | (simp [*, World.cell?_alloc_at, World.cell?_alloc_past, World.cell?_alloc_lt, lt2, lt3, lt4]; done))
        have kc2_1_0 : w2.cell? ⟨w.heap.size, 1, none⟩ = some (.int .i64 l1) := (hc2 (w.heap.size) 1 (by first | omega | (simp <;> omega))).trans (by first | (simp; done) | (simp [*]; done) | (simp [*, World.cell?_alloc_at, World.cell?_alloc_past, World.cell?_alloc_lt, lt2, lt3, lt4]; done))
        have kc2_2_0 : w2.cell? ⟨w.heap.size, 2, none⟩ = some (.int .i64 j1) := (hc2 (w.heap.size) 2 (by first | omega | (simp <;> omega))).trans (by first | (simp; done) | (simp [*]; done) | (simp [*, World.cell?_alloc_at, World.cell?_alloc_past, World.cell?_alloc_lt, lt2, lt3, lt4]; done))
        have kc2_0_1 : w2.cell? ⟨w.heap.size + 1, 0, none⟩ = some (.int .i64 s2) := (hc2 (w.heap.size + 1) 0 (by first | omega | (simp <;> omega))).trans (by first | (simp; done) | (simp [*]; done) | (simp [*, World.cell?_alloc_at, World.cell?_alloc_past, World.cell?_alloc_lt, lt2, lt3, lt4]; done))
        have kc2_1_1 : w2.cell? ⟨w.heap.size + 1, 1, none⟩ = some (.int .i64 l2) := (hc2 (w.heap.size + 1) 1 (by first | omega | (simp <;> omega))).trans (by first | (simp; done) | (simp [*]; done) | (simp [*, World.cell?_alloc_at, World.cell?_alloc_past, World.cell?_alloc_lt, lt2, lt3, lt4]; done))
        go_wp2_with fail
        (with_reducible refine (HS.out _).mono ?_)
        rintro e w3 ⟨rfl, b3⟩
        have hz3 := b3.size
        obtain ⟨hc3, hf3⟩ := bcell b3
        have B3 : Below w.heap.size w w3 := Below.trans (by repeat (first | (with_reducible refine Below.drew ?_) | (with_reducible refine below_drewN ?_ _) | (with_reducible refine Below.alloc ?_ ?_ _) | (with_reducible refine Below.setCell ?_ ?_ _) | (with_reducible assumption) | (with_reducible exact Below.refl _ _) | omega | (simp <;> omega))) (b3.mono (by first | omega | (simp <;> omega)))
        (try simp at hz3)
        have hy3 : w.heap.size < w3.heap.size := by omega
        clear b3
        have hx3 : w.heap.size + 1 < w3.heap.size := by omega
        have hq3 : w2.heap.size < w3.heap.size := by omega
        have kc3_0_0 : w3.cell? ⟨w2.heap.size, 0, none⟩ = some (.int .i64 (0)) := (hc3 (w2.heap.size) 0 (by first | omega | (simp <;> omega))).trans (by first | (simp; done) | (simp [*]; done) | (simp [*, World.cell?_alloc_at, World.cell?_alloc_past, World.cell?_alloc_lt, lt2, lt3, lt4]; done))
        have kc3_1_0 : w3.cell? ⟨w2.heap.size, 1, none⟩ = some (.int .i64 (1)) := (hc3 (w2.heap.size) 1 (by first | omega | (simp <;> omega))).trans (by first | (simp; done) | (simp [*]; done) | (simp [*, World.cell?_alloc_at, World.cell?_alloc_past, World.cell?_alloc_lt, lt2, lt3, lt4]; done))
        have kd30 := kc3_0_0
        have kd31 := kc3_1_0
        clear kc3_0_0 kc3_1_0
        have kc3_0_0 : w3.cell? ⟨w.heap.size, 0, none⟩ = some (.int .i64 s1) := (hc3 (w.heap.size) 0 (by first | omega | (simp <;> omega))).trans (by first | (simp; done) | (simp [*]; done) | (simp [*, World.cell?_alloc_at, World.cell?_alloc_past, World.cell?_alloc_lt, lt2, lt3, lt4]; done))
        have kc3_1_0 : w3.cell? ⟨w.heap.size, 1, none⟩ = some (.int .i64 l1) := (hc3 (w.heap.size) 1 (by first | omega | (simp <;> omega))).trans (by first | (simp; done) | (simp [*]; done) | (simp [*, World.cell?_alloc_at, World.cell?_alloc_past, World.cell?_alloc_lt, lt2, lt3, lt4]; done))
        have kc3_2_0 : w3.cell? ⟨w.heap.size, 2, none⟩ = some (.int .i64 j1) := (hc3 (w.heap.size) 2 (by first | omega | (simp <;> omega))).trans (by first | (simp; done) | (simp [*]; done) | (simp [*, World.cell?_alloc_at, World.cell?_alloc_past, World.cell?_alloc_lt, lt2, lt3, lt4]; done))
        have kc3_0_1 : w3.cell? ⟨w.heap.size + 1, 0, none⟩ = some (.int .i64 s2) := (hc3 (w.heap.size + 1) 0 (by first | omega | (simp <;> omega))).trans (by first | (simp; done) | (simp [*]; done) | (simp [*, World.cell?_alloc_at, World.cell?_alloc_past, World.cell?_alloc_lt, lt2, lt3, lt4]; done))
        have kc3_1_1 : w3.cell? ⟨w.heap.size + 1, 1, none⟩ = some (.int .i64 l2) := (hc3 (w.heap.size + 1) 1 (by first | omega | (simp <;> omega))).trans (by first | (simp; done) | (simp [*]; done) | (simp [*, World.cell?_alloc_at, World.cell?_alloc_past, World.cell?_alloc_lt, lt2, lt3, lt4]; done))
        have f0 : ∀ p : Later (w3.heap.size + 1) (w3.alloc (.cells #[.int .i64 (0), .int .i64 (1)] 30)), p.W.cell? ⟨w2.heap.size, 0, none⟩ = some (.int .i64 (0)) := Later.cell ((World.cell?_alloc_lt _ _ _ (by show w2.heap.size < w3.heap.size; omega)).trans kd30) (by omega)
        have f1 : ∀ p : Later (w3.heap.size + 1) (w3.alloc (.cells #[.int .i64 (0), .int .i64 (1)] 30)), p.W.cell? ⟨w2.heap.size, 1, none⟩ = some (.int .i64 (1)) := Later.cell ((World.cell?_alloc_lt _ _ _ (by show w2.heap.size < w3.heap.size; omega)).trans kd31) (by omega)
        go_wp2_with fail
        refine Later.wp_region_later (w3.heap.size + 1) (by kernel_rfl) (by kernel_rfl) ?_
        repeat (first | go_big_quiet_step ((go_at_call 13; exact later_gives (by simp) (HW.out _ _))) | quiet_step ((go_at_call 13; exact later_gives (by simp) (HW.out _ _))))
        refine wpQuiet_nil ?_
        rintro w5 ⟨q5, hq5⟩
        have b5 := q5.h
        rw [← hq5] at b5
        clear hq5 q5
        clear f0 f1
        have B5 := (show Below w.heap.size w (w3.alloc (.cells #[.int .i64 (0), .int .i64 (1)] 30)) from (by repeat (first | (with_reducible refine Below.drew ?_) | (with_reducible refine below_drewN ?_ _) | (with_reducible refine Below.alloc ?_ ?_ _) | (with_reducible refine Below.setCell ?_ ?_ _) | (with_reducible assumption) | (with_reducible exact Below.refl _ _) | omega | (simp <;> omega)))).trans (b5.mono (by omega))
        go_wp2
        all_goals go_ret
        all_goals exact ⟨by simp, hb0.trans (Below.mono (by repeat (first | (with_reducible refine Below.drew ?_) | (with_reducible refine below_drewN ?_ _) | (with_reducible refine Below.alloc ?_ ?_ _) | (with_reducible refine Below.setCell ?_ ?_ _) | (with_reducible assumption) | (with_reducible exact Below.refl _ _) | omega | (simp <;> omega))) hb0.size)⟩
      · by_cases g2 : 1 < l1 - l2
        · rw [if_pos (.inr (.inl g2))] at hif
          injection hif with hif1 hif2
          subst hif1 hif2
          have g1' : decide (l1 - l2 < -1) = false := decide_eq_false g1
          go_wp2_with fail
          (with_reducible refine (HI.out _).mono ?_)
          rintro e w2 ⟨rfl, b2⟩
          have hz2 := b2.size
          obtain ⟨hc2, hf2⟩ := bcell b2
          have B2 : Below w.heap.size w w2 := Below.trans (by repeat (first | (with_reducible refine Below.drew ?_) | (with_reducible refine below_drewN ?_ _) | (with_reducible refine Below.alloc ?_ ?_ _) | (with_reducible refine Below.setCell ?_ ?_ _) | (with_reducible assumption) | (with_reducible exact Below.refl _ _) | omega | (simp <;> omega))) (b2.mono (by first | omega | (simp <;> omega)))
          (try simp at hz2)
          have hy2 : w.heap.size < w2.heap.size := by omega
          clear b2
          have hx2 : w.heap.size + 1 < w2.heap.size := by omega
          have kc2_0_0 : w2.cell? ⟨w.heap.size, 0, none⟩ = some (.int .i64 s1) := (hc2 (w.heap.size) 0 (by first | omega | (simp <;> omega))).trans (by first | (simp; done) | (simp [*]; done) | (simp [*, World.cell?_alloc_at, World.cell?_alloc_past, World.cell?_alloc_lt, lt2, lt3, lt4]; done))
          have kc2_1_0 : w2.cell? ⟨w.heap.size, 1, none⟩ = some (.int .i64 l1) := (hc2 (w.heap.size) 1 (by first | omega | (simp <;> omega))).trans (by first | (simp; done) | (simp [*]; done) | (simp [*, World.cell?_alloc_at, World.cell?_alloc_past, World.cell?_alloc_lt, lt2, lt3, lt4]; done))
          have kc2_2_0 : w2.cell? ⟨w.heap.size, 2, none⟩ = some (.int .i64 j1) := (hc2 (w.heap.size) 2 (by first | omega | (simp <;> omega))).trans (by first | (simp; done) | (simp [*]; done) | (simp [*, World.cell?_alloc_at, World.cell?_alloc_past, World.cell?_alloc_lt, lt2, lt3, lt4]; done))
          have kc2_0_1 : w2.cell? ⟨w.heap.size + 1, 0, none⟩ = some (.int .i64 s2) := (hc2 (w.heap.size + 1) 0 (by first | omega | (simp <;> omega))).trans (by first | (simp; done) | (simp [*]; done) | (simp [*, World.cell?_alloc_at, World.cell?_alloc_past, World.cell?_alloc_lt, lt2, lt3, lt4]; done))
          have kc2_1_1 : w2.cell? ⟨w.heap.size + 1, 1, none⟩ = some (.int .i64 l2) := (hc2 (w.heap.size + 1) 1 (by first | omega | (simp <;> omega))).trans (by first | (simp; done) | (simp [*]; done) | (simp [*, World.cell?_alloc_at, World.cell?_alloc_past, World.cell?_alloc_lt, lt2, lt3, lt4]; done))
          go_wp2_with fail
          (with_reducible refine (HS.out _).mono ?_)
          rintro e w3 ⟨rfl, b3⟩
          have hz3 := b3.size
          obtain ⟨hc3, hf3⟩ := bcell b3
          have B3 : Below w.heap.size w w3 := Below.trans (by repeat (first | (with_reducible refine Below.drew ?_) | (with_reducible refine below_drewN ?_ _) | (with_reducible refine Below.alloc ?_ ?_ _) | (with_reducible refine Below.setCell ?_ ?_ _) | (with_reducible assumption) | (with_reducible exact Below.refl _ _) | omega | (simp <;> omega))) (b3.mono (by first | omega | (simp <;> omega)))
          (try simp at hz3)
          have hy3 : w.heap.size < w3.heap.size := by omega
          clear b3
          have hx3 : w.heap.size + 1 < w3.heap.size := by omega
          have hq3 : w2.heap.size < w3.heap.size := by omega
          have kc3_0_0 : w3.cell? ⟨w2.heap.size, 0, none⟩ = some (.int .i64 (0)) := (hc3 (w2.heap.size) 0 (by first | omega | (simp <;> omega))).trans (by first | (simp; done) | (simp [*]; done) | (simp [*, World.cell?_alloc_at, World.cell?_alloc_past, World.cell?_alloc_lt, lt2, lt3, lt4]; done))
          have kc3_1_0 : w3.cell? ⟨w2.heap.size, 1, none⟩ = some (.int .i64 (1)) := (hc3 (w2.heap.size) 1 (by first | omega | (simp <;> omega))).trans (by first | (simp; done) | (simp [*]; done) | (simp [*, World.cell?_alloc_at, World.cell?_alloc_past, World.cell?_alloc_lt, lt2, lt3, lt4]; done))
          have kd30 := kc3_0_0
          have kd31 := kc3_1_0
          clear kc3_0_0 kc3_1_0
          have kc3_0_0 : w3.cell? ⟨w.heap.size, 0, none⟩ = some (.int .i64 s1) := (hc3 (w.heap.size) 0 (by first | omega | (simp <;> omega))).trans (by first | (simp; done) | (simp [*]; done) | (simp [*, World.cell?_alloc_at, World.cell?_alloc_past, World.cell?_alloc_lt, lt2, lt3, lt4]; done))
          have kc3_1_0 : w3.cell? ⟨w.heap.size, 1, none⟩ = some (.int .i64 l1) := (hc3 (w.heap.size) 1 (by first | omega | (simp <;> omega))).trans (by first | (simp; done) | (simp [*]; done) | (simp [*, World.cell?_alloc_at, World.cell?_alloc_past, World.cell?_alloc_lt, lt2, lt3, lt4]; done))
          have kc3_2_0 : w3.cell? ⟨w.heap.size, 2, none⟩ = some (.int .i64 j1) := (hc3 (w.heap.size) 2 (by first | omega | (simp <;> omega))).trans (by first | (simp; done) | (simp [*]; done) | (simp [*, World.cell?_alloc_at, World.cell?_alloc_past, World.cell?_alloc_lt, lt2, lt3, lt4]; done))
          have kc3_0_1 : w3.cell? ⟨w.heap.size + 1, 0, none⟩ = some (.int .i64 s2) := (hc3 (w.heap.size + 1) 0 (by first | omega | (simp <;> omega))).trans (by first | (simp; done) | (simp [*]; done) | (simp [*, World.cell?_alloc_at, World.cell?_alloc_past, World.cell?_alloc_lt, lt2, lt3, lt4]; done))
          have kc3_1_1 : w3.cell? ⟨w.heap.size + 1, 1, none⟩ = some (.int .i64 l2) := (hc3 (w.heap.size + 1) 1 (by first | omega | (simp <;> omega))).trans (by first | (simp; done) | (simp [*]; done) | (simp [*, World.cell?_alloc_at, World.cell?_alloc_past, World.cell?_alloc_lt, lt2, lt3, lt4]; done))
          have f0 : ∀ p : Later (w3.heap.size + 1) (w3.alloc (.cells #[.int .i64 (0), .int .i64 (1)] 30)), p.W.cell? ⟨w2.heap.size, 0, none⟩ = some (.int .i64 (0)) := Later.cell ((World.cell?_alloc_lt _ _ _ (by show w2.heap.size < w3.heap.size; omega)).trans kd30) (by omega)
          have f1 : ∀ p : Later (w3.heap.size + 1) (w3.alloc (.cells #[.int .i64 (0), .int .i64 (1)] 30)), p.W.cell? ⟨w2.heap.size, 1, none⟩ = some (.int .i64 (1)) := Later.cell ((World.cell?_alloc_lt _ _ _ (by show w2.heap.size < w3.heap.size; omega)).trans kd31) (by omega)
          go_wp2_with fail
          refine Later.wp_region_later (w3.heap.size + 1) (by kernel_rfl) (by kernel_rfl) ?_
          repeat (first | go_big_quiet_step ((go_at_call 13; exact later_gives (by simp) (HW.out _ _))) | quiet_step ((go_at_call 13; exact later_gives (by simp) (HW.out _ _))))
          refine wpQuiet_nil ?_
          rintro w5 ⟨q5, hq5⟩
          have b5 := q5.h
          rw [← hq5] at b5
          clear hq5 q5
          clear f0 f1
          have B5 := (show Below w.heap.size w (w3.alloc (.cells #[.int .i64 (0), .int .i64 (1)] 30)) from (by repeat (first | (with_reducible refine Below.drew ?_) | (with_reducible refine below_drewN ?_ _) | (with_reducible refine Below.alloc ?_ ?_ _) | (with_reducible refine Below.setCell ?_ ?_ _) | (with_reducible assumption) | (with_reducible exact Below.refl _ _) | omega | (simp <;> omega)))).trans (b5.mono (by omega))
          go_wp2
          all_goals go_ret
          all_goals exact ⟨by simp, hb0.trans (Below.mono (by repeat (first | (with_reducible refine Below.drew ?_) | (with_reducible refine below_drewN ?_ _) | (with_reducible refine Below.alloc ?_ ?_ _) | (with_reducible refine Below.setCell ?_ ?_ _) | (with_reducible assumption) | (with_reducible exact Below.refl _ _) | omega | (simp <;> omega))) hb0.size)⟩
        · by_cases g3 : l1 + l2 = 0
          · rw [if_pos (.inr (.inr g3))] at hif
            injection hif with hif1 hif2
            subst hif1 hif2
            have g1' : decide (l1 - l2 < -1) = false := decide_eq_false g1
            have g2' : decide (1 < l1 - l2) = false := decide_eq_false g2
            go_wp2_with fail
            (with_reducible refine (HI.out _).mono ?_)
            rintro e w2 ⟨rfl, b2⟩
            have hz2 := b2.size
            obtain ⟨hc2, hf2⟩ := bcell b2
            have B2 : Below w.heap.size w w2 := Below.trans (by repeat (first | (with_reducible refine Below.drew ?_) | (with_reducible refine below_drewN ?_ _) | (with_reducible refine Below.alloc ?_ ?_ _) | (with_reducible refine Below.setCell ?_ ?_ _) | (with_reducible assumption) | (with_reducible exact Below.refl _ _) | omega | (simp <;> omega))) (b2.mono (by first | omega | (simp <;> omega)))
            (try simp at hz2)
            have hy2 : w.heap.size < w2.heap.size := by omega
            clear b2
            have hx2 : w.heap.size + 1 < w2.heap.size := by omega
            have kc2_0_0 : w2.cell? ⟨w.heap.size, 0, none⟩ = some (.int .i64 s1) := (hc2 (w.heap.size) 0 (by first | omega | (simp <;> omega))).trans (by first | (simp; done) | (simp [*]; done) | (simp [*, World.cell?_alloc_at, World.cell?_alloc_past, World.cell?_alloc_lt, lt2, lt3, lt4]; done))
            have kc2_1_0 : w2.cell? ⟨w.heap.size, 1, none⟩ = some (.int .i64 l1) := (hc2 (w.heap.size) 1 (by first | omega | (simp <;> omega))).trans (by first | (simp; done) | (simp [*]; done) | (simp [*, World.cell?_alloc_at, World.cell?_alloc_past, World.cell?_alloc_lt, lt2, lt3, lt4]; done))
            have kc2_2_0 : w2.cell? ⟨w.heap.size, 2, none⟩ = some (.int .i64 j1) := (hc2 (w.heap.size) 2 (by first | omega | (simp <;> omega))).trans (by first | (simp; done) | (simp [*]; done) | (simp [*, World.cell?_alloc_at, World.cell?_alloc_past, World.cell?_alloc_lt, lt2, lt3, lt4]; done))
            have kc2_0_1 : w2.cell? ⟨w.heap.size + 1, 0, none⟩ = some (.int .i64 s2) := (hc2 (w.heap.size + 1) 0 (by first | omega | (simp <;> omega))).trans (by first | (simp; done) | (simp [*]; done) | (simp [*, World.cell?_alloc_at, World.cell?_alloc_past, World.cell?_alloc_lt, lt2, lt3, lt4]; done))
            have kc2_1_1 : w2.cell? ⟨w.heap.size + 1, 1, none⟩ = some (.int .i64 l2) := (hc2 (w.heap.size + 1) 1 (by first | omega | (simp <;> omega))).trans (by first | (simp; done) | (simp [*]; done) | (simp [*, World.cell?_alloc_at, World.cell?_alloc_past, World.cell?_alloc_lt, lt2, lt3, lt4]; done))
            go_wp2_with fail
            (with_reducible refine (HS.out _).mono ?_)
            rintro e w3 ⟨rfl, b3⟩
            have hz3 := b3.size
            obtain ⟨hc3, hf3⟩ := bcell b3
            have B3 : Below w.heap.size w w3 := Below.trans (by repeat (first | (with_reducible refine Below.drew ?_) | (with_reducible refine below_drewN ?_ _) | (with_reducible refine Below.alloc ?_ ?_ _) | (with_reducible refine Below.setCell ?_ ?_ _) | (with_reducible assumption) | (with_reducible exact Below.refl _ _) | omega | (simp <;> omega))) (b3.mono (by first | omega | (simp <;> omega)))
            (try simp at hz3)
            have hy3 : w.heap.size < w3.heap.size := by omega
            clear b3
            have hx3 : w.heap.size + 1 < w3.heap.size := by omega
            have hq3 : w2.heap.size < w3.heap.size := by omega
            have kc3_0_0 : w3.cell? ⟨w2.heap.size, 0, none⟩ = some (.int .i64 (0)) := (hc3 (w2.heap.size) 0 (by first | omega | (simp <;> omega))).trans (by first | (simp; done) | (simp [*]; done) | (simp [*, World.cell?_alloc_at, World.cell?_alloc_past, World.cell?_alloc_lt, lt2, lt3, lt4]; done))
            have kc3_1_0 : w3.cell? ⟨w2.heap.size, 1, none⟩ = some (.int .i64 (1)) := (hc3 (w2.heap.size) 1 (by first | omega | (simp <;> omega))).trans (by first | (simp; done) | (simp [*]; done) | (simp [*, World.cell?_alloc_at, World.cell?_alloc_past, World.cell?_alloc_lt, lt2, lt3, lt4]; done))
            have kd30 := kc3_0_0
            have kd31 := kc3_1_0
            clear kc3_0_0 kc3_1_0
            have kc3_0_0 : w3.cell? ⟨w.heap.size, 0, none⟩ = some (.int .i64 s1) := (hc3 (w.heap.size) 0 (by first | omega | (simp <;> omega))).trans (by first | (simp; done) | (simp [*]; done) | (simp [*, World.cell?_alloc_at, World.cell?_alloc_past, World.cell?_alloc_lt, lt2, lt3, lt4]; done))
            have kc3_1_0 : w3.cell? ⟨w.heap.size, 1, none⟩ = some (.int .i64 l1) := (hc3 (w.heap.size) 1 (by first | omega | (simp <;> omega))).trans (by first | (simp; done) | (simp [*]; done) | (simp [*, World.cell?_alloc_at, World.cell?_alloc_past, World.cell?_alloc_lt, lt2, lt3, lt4]; done))
            have kc3_2_0 : w3.cell? ⟨w.heap.size, 2, none⟩ = some (.int .i64 j1) := (hc3 (w.heap.size) 2 (by first | omega | (simp <;> omega))).trans (by first | (simp; done) | (simp [*]; done) | (simp [*, World.cell?_alloc_at, World.cell?_alloc_past, World.cell?_alloc_lt, lt2, lt3, lt4]; done))
            have kc3_0_1 : w3.cell? ⟨w.heap.size + 1, 0, none⟩ = some (.int .i64 s2) := (hc3 (w.heap.size + 1) 0 (by first | omega | (simp <;> omega))).trans (by first | (simp; done) | (simp [*]; done) | (simp [*, World.cell?_alloc_at, World.cell?_alloc_past, World.cell?_alloc_lt, lt2, lt3, lt4]; done))
            have kc3_1_1 : w3.cell? ⟨w.heap.size + 1, 1, none⟩ = some (.int .i64 l2) := (hc3 (w.heap.size + 1) 1 (by first | omega | (simp <;> omega))).trans (by first | (simp; done) | (simp [*]; done) | (simp [*, World.cell?_alloc_at, World.cell?_alloc_past, World.cell?_alloc_lt, lt2, lt3, lt4]; done))
            have f0 : ∀ p : Later (w3.heap.size + 1) (w3.alloc (.cells #[.int .i64 (0), .int .i64 (1)] 30)), p.W.cell? ⟨w2.heap.size, 0, none⟩ = some (.int .i64 (0)) := Later.cell ((World.cell?_alloc_lt _ _ _ (by show w2.heap.size < w3.heap.size; omega)).trans kd30) (by omega)
            have f1 : ∀ p : Later (w3.heap.size + 1) (w3.alloc (.cells #[.int .i64 (0), .int .i64 (1)] 30)), p.W.cell? ⟨w2.heap.size, 1, none⟩ = some (.int .i64 (1)) := Later.cell ((World.cell?_alloc_lt _ _ _ (by show w2.heap.size < w3.heap.size; omega)).trans kd31) (by omega)
            go_wp2_with fail
            refine Later.wp_region_later (w3.heap.size + 1) (by kernel_rfl) (by kernel_rfl) ?_
            repeat (first | go_big_quiet_step ((go_at_call 13; exact later_gives (by simp) (HW.out _ _))) | quiet_step ((go_at_call 13; exact later_gives (by simp) (HW.out _ _))))
            refine wpQuiet_nil ?_
            rintro w5 ⟨q5, hq5⟩
            have b5 := q5.h
            rw [← hq5] at b5
            clear hq5 q5
            clear f0 f1
            have B5 := (show Below w.heap.size w (w3.alloc (.cells #[.int .i64 (0), .int .i64 (1)] 30)) from (by repeat (first | (with_reducible refine Below.drew ?_) | (with_reducible refine below_drewN ?_ _) | (with_reducible refine Below.alloc ?_ ?_ _) | (with_reducible refine Below.setCell ?_ ?_ _) | (with_reducible assumption) | (with_reducible exact Below.refl _ _) | omega | (simp <;> omega)))).trans (b5.mono (by omega))
            go_wp2
            all_goals go_ret
            all_goals exact ⟨by simp, hb0.trans (Below.mono (by repeat (first | (with_reducible refine Below.drew ?_) | (with_reducible refine below_drewN ?_ _) | (with_reducible refine Below.alloc ?_ ?_ _) | (with_reducible refine Below.setCell ?_ ?_ _) | (with_reducible assumption) | (with_reducible exact Below.refl _ _) | omega | (simp <;> omega))) hb0.size)⟩
          · rw [if_neg (by omega)] at hif
            have g1' : decide (l1 - l2 < -1) = false := decide_eq_false g1
            have g2' : decide (1 < l1 - l2) = false := decide_eq_false g2
            have g3' : (l1 + l2 == 0) = false := (by simp [g3])
            obtain ⟨-, hif2⟩ := hif
            have hR := fun W => iRatOf (j1 + 1) (2 * l1 + 1) W (by omega) (by omega)
            rw [hif2] at hR
            have HR := Lib.hid hR
            clear hR hif2
            unfold roV at HR
            go_wp2_with fail
            (with_reducible refine (HI.out _).mono ?_)
            rintro e w2 ⟨rfl, b2⟩
            have hz2 := b2.size
            obtain ⟨hc2, hf2⟩ := bcell b2
            have B2 : Below w.heap.size w w2 := Below.trans (by repeat (first | (with_reducible refine Below.drew ?_) | (with_reducible refine below_drewN ?_ _) | (with_reducible refine Below.alloc ?_ ?_ _) | (with_reducible refine Below.setCell ?_ ?_ _) | (with_reducible assumption) | (with_reducible exact Below.refl _ _) | omega | (simp <;> omega))) (b2.mono (by first | omega | (simp <;> omega)))
            (try simp at hz2)
            have hy2 : w.heap.size < w2.heap.size := by omega
            clear b2
            have hx2 : w.heap.size + 1 < w2.heap.size := by omega
            have kc2_0_0 : w2.cell? ⟨w.heap.size, 0, none⟩ = some (.int .i64 s1) := (hc2 (w.heap.size) 0 (by first | omega | (simp <;> omega))).trans (by first | (simp; done) | (simp [*]; done) | (simp [*, World.cell?_alloc_at, World.cell?_alloc_past, World.cell?_alloc_lt, lt2, lt3, lt4]; done))
            have kc2_1_0 : w2.cell? ⟨w.heap.size, 1, none⟩ = some (.int .i64 l1) := (hc2 (w.heap.size) 1 (by first | omega | (simp <;> omega))).trans (by first | (simp; done) | (simp [*]; done) | (simp [*, World.cell?_alloc_at, World.cell?_alloc_past, World.cell?_alloc_lt, lt2, lt3, lt4]; done))
            have kc2_2_0 : w2.cell? ⟨w.heap.size, 2, none⟩ = some (.int .i64 j1) := (hc2 (w.heap.size) 2 (by first | omega | (simp <;> omega))).trans (by first | (simp; done) | (simp [*]; done) | (simp [*, World.cell?_alloc_at, World.cell?_alloc_past, World.cell?_alloc_lt, lt2, lt3, lt4]; done))
            have kc2_0_1 : w2.cell? ⟨w.heap.size + 1, 0, none⟩ = some (.int .i64 s2) := (hc2 (w.heap.size + 1) 0 (by first | omega | (simp <;> omega))).trans (by first | (simp; done) | (simp [*]; done) | (simp [*, World.cell?_alloc_at, World.cell?_alloc_past, World.cell?_alloc_lt, lt2, lt3, lt4]; done))
            have kc2_1_1 : w2.cell? ⟨w.heap.size + 1, 1, none⟩ = some (.int .i64 l2) := (hc2 (w.heap.size + 1) 1 (by first | omega | (simp <;> omega))).trans (by first | (simp; done) | (simp [*]; done) | (simp [*, World.cell?_alloc_at, World.cell?_alloc_past, World.cell?_alloc_lt, lt2, lt3, lt4]; done))
            go_wp2_with fail
            (with_reducible refine (HS.out _).mono ?_)
            rintro e w3 ⟨rfl, b3⟩
            have hz3 := b3.size
            obtain ⟨hc3, hf3⟩ := bcell b3
            have B3 : Below w.heap.size w w3 := Below.trans (by repeat (first | (with_reducible refine Below.drew ?_) | (with_reducible refine below_drewN ?_ _) | (with_reducible refine Below.alloc ?_ ?_ _) | (with_reducible refine Below.setCell ?_ ?_ _) | (with_reducible assumption) | (with_reducible exact Below.refl _ _) | omega | (simp <;> omega))) (b3.mono (by first | omega | (simp <;> omega)))
            (try simp at hz3)
            have hy3 : w.heap.size < w3.heap.size := by omega
            clear b3
            have hx3 : w.heap.size + 1 < w3.heap.size := by omega
            have hq3 : w2.heap.size < w3.heap.size := by omega
            have kc3_0_0 : w3.cell? ⟨w2.heap.size, 0, none⟩ = some (.int .i64 (rn)) := (hc3 (w2.heap.size) 0 (by first | omega | (simp <;> omega))).trans (by first | (simp; done) | (simp [*]; done) | (simp [*, World.cell?_alloc_at, World.cell?_alloc_past, World.cell?_alloc_lt, lt2, lt3, lt4]; done))
            have kc3_1_0 : w3.cell? ⟨w2.heap.size, 1, none⟩ = some (.int .i64 (rd)) := (hc3 (w2.heap.size) 1 (by first | omega | (simp <;> omega))).trans (by first | (simp; done) | (simp [*]; done) | (simp [*, World.cell?_alloc_at, World.cell?_alloc_past, World.cell?_alloc_lt, lt2, lt3, lt4]; done))
            have kd30 := kc3_0_0
            have kd31 := kc3_1_0
            clear kc3_0_0 kc3_1_0
            have kc3_0_0 : w3.cell? ⟨w.heap.size, 0, none⟩ = some (.int .i64 s1) := (hc3 (w.heap.size) 0 (by first | omega | (simp <;> omega))).trans (by first | (simp; done) | (simp [*]; done) | (simp [*, World.cell?_alloc_at, World.cell?_alloc_past, World.cell?_alloc_lt, lt2, lt3, lt4]; done))
            have kc3_1_0 : w3.cell? ⟨w.heap.size, 1, none⟩ = some (.int .i64 l1) := (hc3 (w.heap.size) 1 (by first | omega | (simp <;> omega))).trans (by first | (simp; done) | (simp [*]; done) | (simp [*, World.cell?_alloc_at, World.cell?_alloc_past, World.cell?_alloc_lt, lt2, lt3, lt4]; done))
            have kc3_2_0 : w3.cell? ⟨w.heap.size, 2, none⟩ = some (.int .i64 j1) := (hc3 (w.heap.size) 2 (by first | omega | (simp <;> omega))).trans (by first | (simp; done) | (simp [*]; done) | (simp [*, World.cell?_alloc_at, World.cell?_alloc_past, World.cell?_alloc_lt, lt2, lt3, lt4]; done))
            have kc3_0_1 : w3.cell? ⟨w.heap.size + 1, 0, none⟩ = some (.int .i64 s2) := (hc3 (w.heap.size + 1) 0 (by first | omega | (simp <;> omega))).trans (by first | (simp; done) | (simp [*]; done) | (simp [*, World.cell?_alloc_at, World.cell?_alloc_past, World.cell?_alloc_lt, lt2, lt3, lt4]; done))
            have kc3_1_1 : w3.cell? ⟨w.heap.size + 1, 1, none⟩ = some (.int .i64 l2) := (hc3 (w.heap.size + 1) 1 (by first | omega | (simp <;> omega))).trans (by first | (simp; done) | (simp [*]; done) | (simp [*, World.cell?_alloc_at, World.cell?_alloc_past, World.cell?_alloc_lt, lt2, lt3, lt4]; done))
            go_wp2_with fail
            (with_reducible refine (HR.out _).mono ?_)
            rintro e w4 ⟨rfl, b4⟩
            have hz4 := b4.size
            obtain ⟨hc4, hf4⟩ := bcell b4
            have B4 : Below w.heap.size w w4 := Below.trans (by repeat (first | (with_reducible refine Below.drew ?_) | (with_reducible refine below_drewN ?_ _) | (with_reducible refine Below.alloc ?_ ?_ _) | (with_reducible refine Below.setCell ?_ ?_ _) | (with_reducible assumption) | (with_reducible exact Below.refl _ _) | omega | (simp <;> omega))) (b4.mono (by first | omega | (simp <;> omega)))
            (try simp at hz4)
            have hy4 : w.heap.size < w4.heap.size := by omega
            clear b4
            have hx4 : w.heap.size + 1 < w4.heap.size := by omega
            have hq4 : w2.heap.size < w4.heap.size := by omega
            have kc4_0_0 : w4.cell? ⟨w2.heap.size, 0, none⟩ = some (.int .i64 (rn)) := (hc4 (w2.heap.size) 0 (by first | omega | (simp <;> omega))).trans (by first | (simp; done) | (simp [*]; done) | (simp [*, World.cell?_alloc_at, World.cell?_alloc_past, World.cell?_alloc_lt, lt2, lt3, lt4]; done))
            have kc4_1_0 : w4.cell? ⟨w2.heap.size, 1, none⟩ = some (.int .i64 (rd)) := (hc4 (w2.heap.size) 1 (by first | omega | (simp <;> omega))).trans (by first | (simp; done) | (simp [*]; done) | (simp [*, World.cell?_alloc_at, World.cell?_alloc_past, World.cell?_alloc_lt, lt2, lt3, lt4]; done))
            have kd40 := kc4_0_0
            have kd41 := kc4_1_0
            clear kc4_0_0 kc4_1_0
            go_wp2
            all_goals go_ret
            all_goals exact ⟨by simp, hb0.trans (Below.mono (by repeat (first | (with_reducible refine Below.drew ?_) | (with_reducible refine below_drewN ?_ _) | (with_reducible refine Below.alloc ?_ ?_ _) | (with_reducible refine Below.setCell ?_ ?_ _) | (with_reducible assumption) | (with_reducible exact Below.refl _ _) | omega | (simp <;> omega))) hb0.size)⟩

end Go.Proofs.Ythinhhfegflmmaa.WFnStrengthSum
