/-
  The walk of the law FnStateLinesStrength.
-/
import Derived.Test.YthinhhfegflmmaaStrW
import Derived.Test.YthinhhfegflmmaaOpenRows
import Derived.Test.YthinhhfegflmmaaStrL
import Derived.Test.YthinhhfegflmmaaLinesPlain
import Derived.Deep.DeepCutAuto
namespace Go.Proofs.Ythinhhfegflmmaa.WFnStateLinesStrength
open Go.Proofs.Ythinhhfegflmmaa.States Go.Proofs.Ythinhhfegflmmaa.DrawTerm Go.Proofs.Ythinhhfegflmmaa.DrawState Go.Proofs.Ythinhhfegflmmaa.LinesCount Go.Proofs.Ythinhhfegflmmaa.LinesPlain Go.Proofs.Ythinhhfegflmmaa.StrL Go.RowKit Go.Proofs.Ythinhhfegflmmaa.RatP Go.Proofs.Ythinhhfegflmmaa.Rat Go.Proofs.Ythinhhfegflmmaa.ChoP Go.Proofs.Ythinhhfegflmmaa.StrP Go.Proofs.Ythinhhfegflmmaa.Spin Go.Proofs.Ythinhhfegflmmaa.Row Go.Proofs.Ythinhhfegflmmaa.Coupled Go.Proofs.Ythinhhfegflmmaa.Later Go.Proofs.Ythinhhfegflmmaa.Two Go.Proofs.Ythinhhfegflmmaa.Rd Go.Proofs.Ythinhhfegflmmaa.StrengthS Go.Proofs.Ythinhhfegflmmaa.StrengthI Go.Proofs.Ythinhhfegflmmaa.DrawStr Go.Proofs.Ythinhhfegflmmaa.StrW Go.Proofs.Ythinhhfegflmmaa.WFnAllowedStrength
set_option linter.unusedVariables false
set_option linter.unusedSimpArgs false

set_option maxRecDepth 100000 in
set_option maxHeartbeats 4000000 in
theorem fnStateLinesStrength (a : Option Addr) (n c : Nat) (zs : List Int) (w0 : World) (h : IsRow .u8 w0 a n c zs) :
    Calls Try.prog 7 #[.slice a n c] w0 (Yes w0) := by
  have HO := Lib.hid (drawStateLines a n c zs w0 h)
  clear h
  by_cases hn : 1048576 < n
  · go_enter Try.func7, Try.ntmps7
    go_wp2_with fail
    go_ret
    exact ⟨rfl, Below.refl _ _⟩
  · go_enter Try.func7, Try.ntmps7
    go_wp2_with fail
    refine HO.out.mono ?_
    rintro e w ⟨s1, l1, s2, l2, hb1, hb2, rfl, hb0⟩
    clear HO hn
    have HI := Lib.hid (fun W => iStateLines s1 l1 s2 l2 W)
    have HS := Lib.hid (fun W => sStateLines s1 l1 s2 l2 W)
    by_cases h0 : lines s1 l1 s2 l2 = 0
    · rw [h0] at HI HS
      clear h0
      go_wp2_with fail
      (with_reducible refine (HI.out _).mono ?_)
      rintro e w2 ⟨rfl, b2⟩
      have hz2 := b2.size
      obtain ⟨hc2, hf2⟩ := bcell b2
      have B2 : Below w.heap.size w w2 := Below.trans (by repeat (first | (with_reducible refine Below.drew ?_) | (with_reducible refine below_drewN ?_ _) | (with_reducible refine Below.alloc ?_ ?_ _) | (with_reducible refine Below.setCell ?_ ?_ _) | (with_reducible assumption) | (with_reducible exact Below.refl _ _) | omega | (simp <;> omega))) (b2.mono (by first | omega | (simp <;> omega)))
      (try simp at hz2)
      have hy2 : w.heap.size < w2.heap.size := by omega
      clear b2
      have hx2 : w.heap.size + 1 < w2.heap.size := by omega
      go_wp2_with fail
      (with_reducible refine (HS.out _).mono ?_)
      rintro e w3 ⟨rfl, b3⟩
      have hz3 := b3.size
      obtain ⟨hc3, hf3⟩ := bcell b3
      have B3 : Below w.heap.size w w3 := Below.trans (by repeat (first | (with_reducible refine Below.drew ?_) | (with_reducible refine below_drewN ?_ _) | (with_reducible refine Below.alloc ?_ ?_ _) | (with_reducible refine Below.setCell ?_ ?_ _) | (with_reducible assumption) | (with_reducible exact Below.refl _ _) | omega | (simp <;> omega))) (b3.mono (by first | omega | (simp <;> omega)))
      (try simp at hz3)
      have hy3 : w.heap.size < w3.heap.size := by omega
      clear b3
      go_wp2
      all_goals go_ret
      all_goals exact ⟨by simp, hb0.trans (Below.mono (by repeat (first | (with_reducible refine Below.drew ?_) | (with_reducible refine below_drewN ?_ _) | (with_reducible refine Below.alloc ?_ ?_ _) | (with_reducible refine Below.setCell ?_ ?_ _) | (with_reducible assumption) | (with_reducible exact Below.refl _ _) | omega | (simp <;> omega))) hb0.size)⟩
    · obtain ⟨ht1, ht2, rfl⟩ := lines_parts h0
      have hpf := @pair_facts s1 l1 l2 (by omega) (by omega)
      have hs1 : 0 ≤ s1 ∧ s1 ≤ 3 := (by omega)
      have hl1 : 0 ≤ l1 ∧ l1 ≤ 2 := (by omega)
      have hl2 : -1 ≤ l2 ∧ l2 ≤ 9 := (by omega)
      have hl2' : 0 ≤ l2 := (by have := termOk_true.1 ht2; omega)
      clear hb1 hb2
      have hcm1 := levelJs_le s1 l1
      have hcm2 := levelJs_le s1 l2
      have hL0 : (lines s1 l1 s1 l2 : Int) ≠ 0 := (by omega)
      have d0 : ((lines s1 l1 s1 l2 : Int) == 0) = false := (by simp; omega)
      have d1 : decide ((0 : Int) < (lines s1 l1 s1 l2 : Int)) = true := decide_eq_true (by omega)
      have e1 : decide (3 < s1) = false := decide_eq_false (by omega)
      have e2 : decide (2 < l1) = false := decide_eq_false (by omega)
      by_cases g : 2 < l2 ∨ 6 < 2 * l1 + s1 ∨ 6 < 2 * l2 + s1
      · generalize lines s1 l1 s1 l2 = L at *
        clear hpf ht1 ht2 hcm1 hcm2
        go_wp2_with fail
        (with_reducible refine (HI.out _).mono ?_)
        rintro e w2 ⟨rfl, b2⟩
        have hz2 := b2.size
        obtain ⟨hc2, hf2⟩ := bcell b2
        have B2 : Below w.heap.size w w2 := Below.trans (by repeat (first | (with_reducible refine Below.drew ?_) | (with_reducible refine below_drewN ?_ _) | (with_reducible refine Below.alloc ?_ ?_ _) | (with_reducible refine Below.setCell ?_ ?_ _) | (with_reducible assumption) | (with_reducible exact Below.refl _ _) | omega | (simp <;> omega))) (b2.mono (by first | omega | (simp <;> omega)))
        (try simp at hz2)
        have hy2 : w.heap.size < w2.heap.size := by omega
        clear b2
        have hx2 : w.heap.size + 1 < w2.heap.size := by omega
        go_wp2_with fail
        (with_reducible refine (HS.out _).mono ?_)
        rintro e w3 ⟨rfl, b3⟩
        have hz3 := b3.size
        obtain ⟨hc3, hf3⟩ := bcell b3
        have B3 : Below w.heap.size w w3 := Below.trans (by repeat (first | (with_reducible refine Below.drew ?_) | (with_reducible refine below_drewN ?_ _) | (with_reducible refine Below.alloc ?_ ?_ _) | (with_reducible refine Below.setCell ?_ ?_ _) | (with_reducible assumption) | (with_reducible exact Below.refl _ _) | omega | (simp <;> omega))) (b3.mono (by first | omega | (simp <;> omega)))
        (try simp at hz3)
        have hy3 : w.heap.size < w3.heap.size := by omega
        clear b3
        have hx3 : w.heap.size + 1 < w3.heap.size := by omega
        have kc3_0_0 : w3.cell? ⟨w.heap.size, 0, none⟩ = some (.int .i64 s1) := (hc3 (w.heap.size) 0 (by first | omega | (simp <;> omega))).trans (by first | (simp; done) | (simp [*]; done) | (simp [*, World.cell?_alloc_at, World.cell?_alloc_past, World.cell?_alloc_lt, lt2, lt3, lt4]; done))
        have kc3_1_0 : w3.cell? ⟨w.heap.size, 1, none⟩ = some (.int .i64 l1) := (hc3 (w.heap.size) 1 (by first | omega | (simp <;> omega))).trans (by first | (simp; done) | (simp [*]; done) | (simp [*, World.cell?_alloc_at, World.cell?_alloc_past, World.cell?_alloc_lt, lt2, lt3, lt4]; done))
        have kc3_0_1 : w3.cell? ⟨w.heap.size + 1, 0, none⟩ = some (.int .i64 s1) := (hc3 (w.heap.size + 1) 0 (by first | omega | (simp <;> omega))).trans (by first | (simp; done) | (simp [*]; done) | (simp [*, World.cell?_alloc_at, World.cell?_alloc_past, World.cell?_alloc_lt, lt2, lt3, lt4]; done))
        have kc3_1_1 : w3.cell? ⟨w.heap.size + 1, 1, none⟩ = some (.int .i64 l2) := (hc3 (w.heap.size + 1) 1 (by first | omega | (simp <;> omega))).trans (by first | (simp; done) | (simp [*]; done) | (simp [*, World.cell?_alloc_at, World.cell?_alloc_past, World.cell?_alloc_lt, lt2, lt3, lt4]; done))
        by_cases g1 : 2 < l2
        · have e3 : decide (2 < l2) = true := decide_eq_true g1
          go_wp2
          all_goals go_ret
          all_goals exact ⟨by simp <;> omega, hb0.trans (Below.mono (by repeat (first | (with_reducible refine Below.drew ?_) | (with_reducible refine below_drewN ?_ _) | (with_reducible refine Below.alloc ?_ ?_ _) | (with_reducible refine Below.setCell ?_ ?_ _) | (with_reducible assumption) | (with_reducible exact Below.refl _ _) | omega | (simp <;> omega))) hb0.size)⟩
        · have e3 : decide (2 < l2) = false := decide_eq_false g1
          by_cases g2 : 6 < 2 * l1 + s1
          · have e4 : decide (6 < 2 * l1 + s1) = true := decide_eq_true g2
            go_wp2
            all_goals go_ret
            all_goals exact ⟨by simp <;> omega, hb0.trans (Below.mono (by repeat (first | (with_reducible refine Below.drew ?_) | (with_reducible refine below_drewN ?_ _) | (with_reducible refine Below.alloc ?_ ?_ _) | (with_reducible refine Below.setCell ?_ ?_ _) | (with_reducible assumption) | (with_reducible exact Below.refl _ _) | omega | (simp <;> omega))) hb0.size)⟩
          · have e4 : decide (6 < 2 * l1 + s1) = false := decide_eq_false g2
            have e5 : decide (6 < 2 * l2 + s1) = true := decide_eq_true (by omega)
            go_wp2
            all_goals go_ret
            all_goals exact ⟨by simp <;> omega, hb0.trans (Below.mono (by repeat (first | (with_reducible refine Below.drew ?_) | (with_reducible refine below_drewN ?_ _) | (with_reducible refine Below.alloc ?_ ?_ _) | (with_reducible refine Below.setCell ?_ ?_ _) | (with_reducible assumption) | (with_reducible exact Below.refl _ _) | omega | (simp <;> omega))) hb0.size)⟩
      · have g' : l2 ≤ 2 ∧ 2 * l1 + s1 ≤ 6 ∧ 2 * l2 + s1 ≤ 6 := by omega
        have e3 : decide (2 < l2) = false := decide_eq_false (by omega)
        have e4 : decide (6 < 2 * l1 + s1) = false := decide_eq_false (by omega)
        have e5 : decide (6 < 2 * l2 + s1) = false := decide_eq_false (by omega)
        have HPF := Lib.hid (hpf ⟨hl2', g'.1⟩ g'.2.1 g'.2.2)
        have ip := (js_pos s1 l1 (by omega) (by omega) (by omega) (by omega)).1
        have jp := (js_pos s1 l2 (by omega) (by omega) (by omega) (by omega)).1
        have HLS := Lib.hid (fun j i W => LineI.iLineStrength s1 l1 j s1 l2 i W sumGives)
        have HV1 := Lib.hid (fun W => iLevelsOf s1 l1 W)
        have HV2 := Lib.hid (fun W => iLevelsOf s1 l2 W)
        have HLN := Lib.hid (show lines s1 l1 s1 l2 = allOf s1 l1 s1 l2 (levelJs s1 l1) (levelJs s1 l2) from rfl)
        have HTL := Lib.hid (fun k => take_le_mul s1 l1 s1 l2 (levelJs s1 l1) (levelJs s1 l2) k)
        have HMUL := Lib.hid (show (levelJs s1 l1).length * (levelJs s1 l2).length ≤ 25 * 25 from Nat.mul_le_mul hcm1 hcm2)
        clear hpf ht1 ht2 g g'
        generalize lines s1 l1 s1 l2 = L at *
        generalize levelJs s1 l1 = is at *
        generalize levelJs s1 l2 = js at *
        go_wp2_with fail
        (with_reducible refine (HI.out _).mono ?_)
        rintro e w2 ⟨rfl, b2⟩
        have hz2 := b2.size
        obtain ⟨hc2, hf2⟩ := bcell b2
        have B2 : Below w.heap.size w w2 := Below.trans (by repeat (first | (with_reducible refine Below.drew ?_) | (with_reducible refine below_drewN ?_ _) | (with_reducible refine Below.alloc ?_ ?_ _) | (with_reducible refine Below.setCell ?_ ?_ _) | (with_reducible assumption) | (with_reducible exact Below.refl _ _) | omega | (simp <;> omega))) (b2.mono (by first | omega | (simp <;> omega)))
        (try simp at hz2)
        have hy2 : w.heap.size < w2.heap.size := by omega
        clear b2
        have hx2 : w.heap.size + 1 < w2.heap.size := by omega
        go_wp2_with fail
        (with_reducible refine (HS.out _).mono ?_)
        rintro e w3 ⟨rfl, b3⟩
        have hz3 := b3.size
        obtain ⟨hc3, hf3⟩ := bcell b3
        have B3 : Below w.heap.size w w3 := Below.trans (by repeat (first | (with_reducible refine Below.drew ?_) | (with_reducible refine below_drewN ?_ _) | (with_reducible refine Below.alloc ?_ ?_ _) | (with_reducible refine Below.setCell ?_ ?_ _) | (with_reducible assumption) | (with_reducible exact Below.refl _ _) | omega | (simp <;> omega))) (b3.mono (by first | omega | (simp <;> omega)))
        (try simp at hz3)
        have hy3 : w.heap.size < w3.heap.size := by omega
        clear b3
        have hx3 : w.heap.size + 1 < w3.heap.size := by omega
        have kc3_0_0 : w3.cell? ⟨w.heap.size, 0, none⟩ = some (.int .i64 s1) := (hc3 (w.heap.size) 0 (by first | omega | (simp <;> omega))).trans (by first | (simp; done) | (simp [*]; done) | (simp [*, World.cell?_alloc_at, World.cell?_alloc_past, World.cell?_alloc_lt, lt2, lt3, lt4]; done))
        have kc3_1_0 : w3.cell? ⟨w.heap.size, 1, none⟩ = some (.int .i64 l1) := (hc3 (w.heap.size) 1 (by first | omega | (simp <;> omega))).trans (by first | (simp; done) | (simp [*]; done) | (simp [*, World.cell?_alloc_at, World.cell?_alloc_past, World.cell?_alloc_lt, lt2, lt3, lt4]; done))
        have kc3_0_1 : w3.cell? ⟨w.heap.size + 1, 0, none⟩ = some (.int .i64 s1) := (hc3 (w.heap.size + 1) 0 (by first | omega | (simp <;> omega))).trans (by first | (simp; done) | (simp [*]; done) | (simp [*, World.cell?_alloc_at, World.cell?_alloc_past, World.cell?_alloc_lt, lt2, lt3, lt4]; done))
        have kc3_1_1 : w3.cell? ⟨w.heap.size + 1, 1, none⟩ = some (.int .i64 l2) := (hc3 (w.heap.size + 1) 1 (by first | omega | (simp <;> omega))).trans (by first | (simp; done) | (simp [*]; done) | (simp [*, World.cell?_alloc_at, World.cell?_alloc_past, World.cell?_alloc_lt, lt2, lt3, lt4]; done))
        go_wp2_with fail
        (with_reducible refine (HV1.out _).mono ?_)
        rintro e w4 ⟨v4, rfl, O4, b4⟩
        have hz4 := b4.size
        obtain ⟨hc4, hf4⟩ := bcell b4
        have B4 : Below w.heap.size w w4 := B3.trans (b4.mono (by omega))
        (try simp at hz4)
        clear b4
        have hx4 : w.heap.size + 1 < w4.heap.size := by omega
        have kc4_0_1 : w4.cell? ⟨w.heap.size + 1, 0, none⟩ = some (.int .i64 s1) := (hc4 (w.heap.size + 1) 0 (by first | omega | (simp <;> omega))).trans (by first | (simp; done) | (simp [*]; done) | (simp [*, World.cell?_alloc_at, World.cell?_alloc_past, World.cell?_alloc_lt, lt2, lt3, lt4]; done))
        have kc4_1_1 : w4.cell? ⟨w.heap.size + 1, 1, none⟩ = some (.int .i64 l2) := (hc4 (w.heap.size + 1) 1 (by first | omega | (simp <;> omega))).trans (by first | (simp; done) | (simp [*]; done) | (simp [*, World.cell?_alloc_at, World.cell?_alloc_past, World.cell?_alloc_lt, lt2, lt3, lt4]; done))
        obtain ⟨g4, c4, rfl, hg40, hg41, hgc4, hgm4, hcell4⟩ := own_level O4 ip
        go_wp2_with fail
        (with_reducible refine (HV2.out _).mono ?_)
        rintro e w5 ⟨v5, rfl, O5, b5⟩
        obtain ⟨g5, c5, rfl, hg50, hg51, hgc5, hgm5, hcell5⟩ := own_level O5 jp
        have B5 : Below w.heap.size w w5 := B4.trans (b5.mono (by omega))
        have hz5 := b5.size
        have hg4w : g4 < w5.heap.size := Nat.lt_of_lt_of_le hg41 hz5
        have HC := Lib.hid (fun o => b5.cell (p := ⟨g4, o, none⟩) hg41)
        have HC4 := Lib.hid hcell4
        have HC5 := Lib.hid hcell5
        obtain ⟨n', hn'⟩ : ∃ n', n' = is.length := ⟨_, rfl⟩
        obtain ⟨m, hm⟩ : ∃ m, m = js.length := ⟨_, rfl⟩
        have HN := Lib.hid hn'
        have HM := Lib.hid hm
        rw [← hn'] at hgc4 hcm1 ip ⊢
        rw [← hm] at hgc5 hcm2 jp ⊢
        clear hcell4 hcell5 O4 O5 b5 hn' hm hc2 hf2 hc3 hf3 hc4 hf4 kc3_0_0 kc3_1_0 kc3_0_1 kc3_1_1 kc4_0_1 kc4_1_1
        go_wp2_with fail
        go_loopw [7, 10] (fun t i wr => ∃ k : Nat, k ≤ n' ∧ i = .int .i64 k ∧ t = .int .i64 (allOf s1 l1 s1 l2 (is.take k) js : Nat) ∧ Below w5.heap.size w5 wr) (fun _ i _ => n' - (intOf i).toNat)
        case atStart => exact ⟨0, by omega, rfl, rfl, Below.refl _ _⟩
        case round =>
          obtain ⟨k, hk, rfl, rfl, hB⟩ := hrel
          have tk := HTL.out k
          have tm := HMUL.out
          obtain ⟨wo, rfl⟩ : ∃ wo : World, wo = wr := ⟨_, rfl⟩
          by_cases hlt : k < n'
          · have hkl : k < is.length := by have := HN.out; omega
            have hT := all_take s1 l1 s1 l2 is js k hkl
            have tk1 := HTL.out (k + 1)
            have HTK := Lib.hid hT
            obtain ⟨c0, c1, c2⟩ := HC4.out k hkl
            have I0 := Lib.hid ((HC.out _).trans c0)
            have I1 := Lib.hid ((HC.out _).trans c1)
            have I2 := Lib.hid ((HC.out _).trans c2)
            have hpk := HPF.out _ (List.getElem_mem hkl)
            generalize is[k] = ik at *
            rw [hT] at tk1
            have rl := row_le s1 l1 s1 l2 js ik
            have HPK := Lib.hid hpk
            clear hT c0 c1 c2 hpk
            generalize allOf s1 l1 s1 l2 (is.take k) js = t0 at *
            go_wp2
            go_loopw [7, 11] (fun t i wr => ∃ q : Nat, q ≤ m ∧ i = .int .i64 q ∧ t = .int .i64 ((t0 + rowOf s1 l1 s1 l2 (js.take q) ik : Nat) : Int) ∧ Below w5.heap.size w5 wr) (fun _ i _ => m - (intOf i).toNat)
            case atStart => exact ⟨0, by omega, rfl, rfl, hB⟩
            case round =>
              obtain ⟨q, hq, rfl, rfl, hB'⟩ := hrel
              by_cases hltq : q < m
              · have hql : q < js.length := by have := HM.out; omega
                obtain ⟨d0, d1, d2⟩ := HC5.out q hql
                have J0 := Lib.hid d0
                have J1 := Lib.hid d1
                have J2 := Lib.hid d2
                have HR := Lib.hid (row_take s1 l1 s1 l2 js ik q hql)
                have rq := row_le s1 l1 s1 l2 (js.take q) ik
                have rq' : (js.take q).length ≤ q := List.length_take_le _ _
                have hpq := HPK.out _ (List.getElem_mem hql)
                generalize js[q] = jq at *
                generalize rowOf s1 l1 s1 l2 (js.take q) ik = rr at *
                have hCL := fun W => HLS.out ik jq W
                unfold roV at hCL
                obtain ⟨hp1, hp2⟩ := hpq
                generalize lineS s1 l1 ik s1 l2 jq = r at *
                obtain ⟨rn, rd, rok⟩ := r
                obtain rfl : rok = true := hp1
                have HCL := Lib.hid hCL
                have HP2 := Lib.hid (show decide (0 < rn) = lineB s1 l1 s1 l2 ik jq from hp2)
                have h4r : g4 < wr.heap.size := Nat.lt_of_lt_of_le hg4w hB'.size
                have h5r : g5 < wr.heap.size := Nat.lt_of_lt_of_le hg51 hB'.size
                have X0 := Lib.hid ((hB'.cell (p := ⟨g4, k * 3, none⟩) hg4w).trans I0.out)
                have X1 := Lib.hid ((hB'.cell (p := ⟨g4, k * 3 + 1, none⟩) hg4w).trans I1.out)
                have X2 := Lib.hid ((hB'.cell (p := ⟨g4, k * 3 + 2, none⟩) hg4w).trans I2.out)
                have X3 := Lib.hid ((hB'.cell (p := ⟨g5, q * 3, none⟩) hg51).trans J0.out)
                have X4 := Lib.hid ((hB'.cell (p := ⟨g5, q * 3 + 1, none⟩) hg51).trans J1.out)
                have X5 := Lib.hid ((hB'.cell (p := ⟨g5, q * 3 + 2, none⟩) hg51).trans J2.out)
                clear hp2 hCL d0 d1 d2
                have x0 := X0.out
                have x1 := X1.out
                have x2 := X2.out
                have x3 := X3.out
                have x4 := X4.out
                have x5 := X5.out
                go_upto_region 19 with fail
                go_cut [12, 13] (fun s12 s13 wx => ∃ T : Nat, wr.heap.size ≤ T ∧ s12 = .pointer (some ⟨T, 0, none⟩) ∧ s13 = .bool true ∧ Two wx T rn rd ∧ Below wr.heap.size wr wx)
                case first =>
                  go_region_held3 (fun w' => w'.cell? ⟨g4, k * 3, none⟩ = some (.int .i64 (s1)) ∧ w'.cell? ⟨g4, k * 3 + 1, none⟩ = some (.int .i64 (l1)) ∧ w'.cell? ⟨g4, k * 3 + 2, none⟩ = some (.int .i64 (ik)) ∧ w'.cell? ⟨g5, q * 3, none⟩ = some (.int .i64 (s1)) ∧ w'.cell? ⟨g5, q * 3 + 1, none⟩ = some (.int .i64 (l2)) ∧ w'.cell? ⟨g5, q * 3 + 2, none⟩ = some (.int .i64 (jq)))
                    (first | exact ⟨x0, x1, x2, x3, x4, x5⟩ | (refine ⟨?_, ?_, ?_, ?_, ?_, ?_⟩ <;> (rw [World.cell?_setCell_far _ _ _ _ (by first | exact Nat.ne_of_gt h4r | exact Nat.ne_of_gt h5r), World.cell?_setCell_far _ _ _ _ (by first | exact Nat.ne_of_gt h4r | exact Nat.ne_of_gt h5r)]; assumption)) | go_keep)
                    (first | ((with_reducible refine (HCL.out _).mono ?_); rintro e w2x ⟨rfl, b2'⟩; have BX2 : Below wr.heap.size wr w2x := ((Below.refl wr.heap.size wr).drew).trans b2'; clear b2'; have x0 := (BX2.cell (p := ⟨g4, k * 3, none⟩) h4r).trans X0.out; have x1 := (BX2.cell (p := ⟨g4, k * 3 + 1, none⟩) h4r).trans X1.out; have x2 := (BX2.cell (p := ⟨g4, k * 3 + 2, none⟩) h4r).trans X2.out; have x3 := (BX2.cell (p := ⟨g5, q * 3, none⟩) h5r).trans X3.out; have x4 := (BX2.cell (p := ⟨g5, q * 3 + 1, none⟩) h5r).trans X4.out; have x5 := (BX2.cell (p := ⟨g5, q * 3 + 2, none⟩) h5r).trans X5.out; skip)
                           | ((with_reducible refine (HCL.out _).mono ?_); rintro e w2x ⟨rfl, b2'⟩; have BX2 : Below wr.heap.size wr w2x := (((Below.refl wr.heap.size wr).alloc (Nat.le_refl _) (.cells #[.int .i64 0, .int .i64 0] 30)).drew).trans (b2'.mono (show wr.heap.size ≤ (wr.alloc (.cells #[.int .i64 0, .int .i64 0] 30)).heap.size by simp)); have TX2 := Lib.hid ((Two.new wr 0 0 30).below (((Below.refl (wr.alloc (.cells #[.int .i64 0, .int .i64 0] 30)).heap.size (wr.alloc (.cells #[.int .i64 0, .int .i64 0] 30))).drew).trans b2') (Two.new wr 0 0 30).2.2.2.2); clear b2'; have tf0 := TX2.out.1; have tf1 := TX2.out.2.1; have tf2 := TX2.out.2.2.1; have tf3 := TX2.out.2.2.2.1; have x0 := (BX2.cell (p := ⟨g4, k * 3, none⟩) h4r).trans X0.out; have x1 := (BX2.cell (p := ⟨g4, k * 3 + 1, none⟩) h4r).trans X1.out; have x2 := (BX2.cell (p := ⟨g4, k * 3 + 2, none⟩) h4r).trans X2.out; have x3 := (BX2.cell (p := ⟨g5, q * 3, none⟩) h5r).trans X3.out; have x4 := (BX2.cell (p := ⟨g5, q * 3 + 1, none⟩) h5r).trans X4.out; have x5 := (BX2.cell (p := ⟨g5, q * 3 + 2, none⟩) h5r).trans X5.out; skip))
                  all_goals go_wp2_with fail
                  all_goals go_meet
                  all_goals first | exact ⟨_, BX2.size, rfl, rfl, Two.new _ _ _ _, BX2.alloc BX2.size _⟩ | exact ⟨_, Nat.le_refl _, rfl, rfl, Two.put TX2.out _ _, (BX2.setCell (p := ⟨wr.heap.size, 0, none⟩) (Nat.le_refl _) _).setCell (p := ⟨wr.heap.size, 1, none⟩) (Nat.le_refl _) _⟩
                case rest =>
                  obtain ⟨T, hT', rfl, rfl, TT, B6⟩ := hcut
                  have B7 := hB'.trans (B6.mono hB'.size)
                  obtain ⟨u0, u1, u2, u3, u4⟩ := TT
                  clear x0 x1 x2 x3 x4 x5 X0 X1 X2 X3 X4 X5
                  by_cases hpos : 0 < rn
                  · have hd : decide (0 < rn) = true := decide_eq_true hpos
                    have hl : lineB s1 l1 s1 l2 ik jq = true := HP2.out.symm.trans hd
                    go_wp2
                    go_roundw
                    case rel => exact ⟨q + 1, by omega, by go_num, by rw [HR.out]; simp [hl]; go_num, B7⟩
                    case measure => simp [intOf]; omega
                  · have hd : decide (0 < rn) = false := decide_eq_false hpos
                    have hl : lineB s1 l1 s1 l2 ik jq = false := HP2.out.symm.trans hd
                    go_wp2
                    go_roundw
                    case rel => exact ⟨q + 1, by omega, by go_num, by rw [HR.out]; simp [hl], B7⟩
                    case measure => simp [intOf]; omega
              · obtain rfl : q = m := by omega
                have e : js.take q = js := List.take_of_length_le (by have := HM.out; omega)
                rw [e]
                clear e
                go_wp2
                go_roundw
                case rel => exact ⟨k + 1, by omega, by go_num, by rw [HTK.out], hB'⟩
                case measure => simp [intOf]; omega
          · obtain rfl : k = n' := by omega
            have e : is.take k = is := List.take_of_length_le (by have := HN.out; omega)
            rw [e, ← HLN.out]
            clear e tk
            go_wp2
            go_ret
            exact ⟨by simp, hb0.trans ((B5.trans (hB.mono B5.size)).mono hb0.size)⟩

end Go.Proofs.Ythinhhfegflmmaa.WFnStateLinesStrength
