/-
  The walk of the law FnLinesAll.
-/
import Derived.Test.YtgkgdnocleajcaaLinesCommon
namespace Go.Proofs.Ytgkgdnocleajcaa.WFnLinesAll
open Go.RowKit Go.Proofs.Ytgkgdnocleajcaa.Spin Go.Proofs.Ytgkgdnocleajcaa.Row Go.Proofs.Ytgkgdnocleajcaa.Plain Go.Proofs.Ytgkgdnocleajcaa.Later Go.Proofs.Ytgkgdnocleajcaa.Node Go.Proofs.Ytgkgdnocleajcaa.Line Go.Proofs.Ytgkgdnocleajcaa.LinesFn Go.Proofs.Ytgkgdnocleajcaa.LinesS Go.Proofs.Ytgkgdnocleajcaa.LinesP Go.Proofs.Ytgkgdnocleajcaa.RowsLine Go.Proofs.Ytgkgdnocleajcaa.RowsNode Go.Proofs.Ytgkgdnocleajcaa.Rd Go.Proofs.Ytgkgdnocleajcaa.DrawScheme Go.Proofs.Ytgkgdnocleajcaa.LinesHelp Go.Proofs.Ytgkgdnocleajcaa.SchemeLaws Go.Proofs.Ytgkgdnocleajcaa.LinesCommon
set_option linter.unusedVariables false
set_option linter.unusedSimpArgs false

set_option maxRecDepth 100000 in
set_option maxHeartbeats 4000000 in
theorem fnLinesAll (a : Option Addr) (n c : Nat) (zs : List Int) (w0 : World) (h : IsRow .u8 w0 a n c zs) :
    Calls Try.prog 8 #[.slice a n c] w0 (Yes w0) := by
  have HO := Lib.hid (drawSchemeLines a n c zs w0 h)
  clear h
  by_cases hn : 1048576 < n
  · go_enter Try.func8, Try.ntmps8
    go_wp2_with fail
    go_ret
    exact ⟨rfl, Below.refl _ _⟩
  · have hnI : (n : Int) ≤ 1048576 := by omega
    skip
    go_enter Try.func8, Try.ntmps8
    go_wp2_with fail
    refine HO.out.mono ?_
    rintro e w ⟨ns, v, hl, rfl, O, B0⟩
    clear HO hn
    go_wp2_with fail
    (with_reducible refine (iSchemeLines ns _ _ (Sees.of_own O)).mono ?_)
    rintro e w1 ⟨v1, rfl, O1, b1⟩
    have B1 := B0.trans (b1.mono B0.size)
    replace O := own_below O b1 (Nat.le_refl _)
    have hz1 := b1.size
    clear b1 B0
    go_wp2_with fail
    (with_reducible refine (sSchemeLines ns _ _ (Sees.of_own O)).mono ?_)
    rintro e w2 ⟨v2, rfl, O2, b2⟩
    have B2 := B1.trans (b2.mono B1.size)
    replace O := own_below O b2 (Nat.le_refl _)
    replace O1 := own_below O1 b2 (Nat.le_refl _)
    have hz2 := b2.size
    clear b2 B1
    obtain ⟨N, hN⟩ : ∃ N, N = (linesOf ns).length := ⟨_, rfl⟩
    have HNL := Lib.hid hN
    have hN144 : N ≤ 144 := by rw [hN]; exact linesOf_len ns
    have HS1 := Lib.hid (fun W (h : Below w2.heap.size w2 W) => Sees.of_own (own_below O1 h (Nat.le_refl _)))
    have HS2 := Lib.hid (fun W (h : Below w2.heap.size w2 W) => Sees.of_own (own_below O2 h (Nat.le_refl _)))
    rw [← hN] at O1
    clear hN
    obtain ⟨a1, c1, e1⟩ := slice_form O1
    subst e1
    have HEQ := Lib.hid (fun W (h : Below w2.heap.size w2 W) => sameLines (linesOf ns) _ _ W (HS1.out W h) (HS2.out W h))
    go_wp2_with fail
    refine (HEQ.out _ (Below.refl _ _)).mono ?_
    rintro e w3 ⟨rfl, b3⟩
    have B3 := B2.trans (b3.mono B2.size)
    have O3 := own_below O b3 (Nat.le_refl _)
    have O13 := own_below O1 b3 (Nat.le_refl _)
    have hz3 := b3.size
    by_cases hz : N = 0
    · have hz' : ((N : Int) == 0) = true := by rw [beq_iff_eq]; omega
      have HEQ3 := Lib.hid (HEQ.out w3 b3)
      clear hz
      go_wp2_with fail
      refine HEQ3.out.mono ?_
      rintro e w4 ⟨rfl, b4⟩
      go_wp2
      go_ret
      exact ⟨rfl, B3.trans (b4.mono B3.size)⟩
    · have hz' : ((N : Int) == 0) = false := by rw [beq_eq_false_iff_ne]; omega
      have hpos : 0 < N := by omega
      have hok : schemeOk ns = true := ok_of_pos (by have := HNL.out; omega)
      have HOK := Lib.hid hok
      have hm1 := (scheme_parts hok).1
      have hm2 := (scheme_parts hok).2.1
      obtain ⟨M, hM⟩ : ∃ M, M = ns.length := ⟨_, rfl⟩
      have HM := Lib.hid hM
      rw [← hM] at O3 hm1 hm2
      obtain ⟨g, cs, rfl, hg0, hg1, hgc, hgm, hcell⟩ := own_form O3 (by omega)
      obtain ⟨g1, cs1, e2, hg10, hg11, hgc1, hgm1, hcell1⟩ := own_form O13 hpos
      cases e2
      have HSN := Lib.hid (show Sees w3 3 (.slice (some ⟨g, 0, none⟩) M cs) M (ns.flatMap encN) from Sees.of_own O3)
      have HSL := Lib.hid (show Sees w3 3 (.slice (some ⟨g1, 0, none⟩) N c1) N ((linesOf ns).flatMap encLn) from Sees.of_own O13)
      have HCN := Lib.hid (fun (W : World) (h : Below w3.heap.size w3 W) (k : Nat) (hk : k < M) => node_cells (w := W) (ns := ns) (b := g) (o := 0) (fun j hj => (h.cell (p := ⟨g, 0 + j, none⟩) hg1).trans (hcell j (by omega))) k (by omega))
      have HCL := Lib.hid (fun (W : World) (h : Below w3.heap.size w3 W) (k : Nat) (hk : k < (linesOf ns).length) => line_cells (w := W) (xs := linesOf ns) (b := g1) (o := 0) (fun j hj => (h.cell (p := ⟨g1, 0 + j, none⟩) hg11).trans (hcell1 j (by have := HNL.out; omega))) k hk)
      unfold maxLen at hgm hgm1
      clear hz hok hM hcell hcell1 O O1 O2 O3 O13 b3 HEQ HS1 HS2 hl
      go_wp2_with fail
      go_loopw [6] (fun i wr => ∃ k : Nat, k ≤ M ∧ i = .int .i64 k ∧ Below w3.heap.size w3 wr) (fun i _ => M - (intOf i).toNat)
      case atStart => exact ⟨0, by omega, rfl, Below.refl _ _⟩
      case round =>
        obtain ⟨k, hk, rfl, hB⟩ := hrel
        by_cases hlt : k < M
        · go_wp2
          go_loopw [7] (fun i wr => ∃ m : Nat, m ≤ k ∧ i = .int .i64 m ∧ Below w3.heap.size w3 wr) (fun i _ => k - (intOf i).toNat)
          case atStart => exact ⟨0, by omega, rfl, hB⟩
          case round =>
            obtain ⟨m, hm, rfl, hB⟩ := hrel
            have hsz := hB.size
            by_cases hmk : m < k
            · obtain ⟨x0, x1, x2⟩ := HCN.out wr hB k hlt
              obtain ⟨y0, y1, y2⟩ := HCN.out wr hB m (by omega)
              have hkl : k < ns.length := by have := HM.out; omega
              obtain ⟨⟨bx0, bx1⟩, bx2, bx3⟩ := nd_bounds HOK.out hkl
              obtain ⟨⟨by0, by1⟩, by2, by3⟩ := nd_bounds HOK.out (show m < ns.length by omega)
              have hal := between_iff HOK.out hkl hmk
              have HAL := Lib.hid (allow_iff (x := nth ns k) (y := nth ns m))
              simp only [Nat.zero_add] at x0 x1 x2 y0 y1 y2
              have hgw : g < wr.heap.size := by omega
              have hk0 : (0 : Int) ≤ (k : Int) := by omega
              have hk1 : (k : Int) < (M : Int) := by omega
              have hm0 : (0 : Int) ≤ (m : Int) := by omega
              have hm1 : (m : Int) < (M : Int) := by omega
              have HB := Lib.hid (fun W (h : Below w3.heap.size w3 W) => lineBetween (linesOf ns) (.slice (some ⟨g1, 0, none⟩) N c1) (k : Int) (m : Int) W (by have h := HSL.out.below h (Nat.le_refl _); rw [HNL.out] at h ⊢; exact h))
              have bb := between_bounds ns (k : Int) (m : Int)
              generalize between (linesOf ns) (k : Int) (m : Int) = t at *
              generalize nth ns k = X at *
              generalize nth ns m = Y at *
              obtain ⟨xe, xj, xo⟩ := X
              obtain ⟨ye, yj, yo⟩ := Y
              simp only at x1 x2 y1 y2 bx2 bx3 by2 by3 HAL
              have HALL := Lib.hid hal
              clear x0 y0 hal bx0 bx1 by0 by1
              by_cases ho : xo = yo
              · have ht : t < 0 := by
                  have h1 : allow ⟨xe, xj, xo⟩ ⟨ye, yj, yo⟩ = false := by simp [allow, ho]
                  have := HALL.out; rw [h1] at this; simpa using this
                subst ho
                go_wp2_with fail
                have f1 : ∀ p : Later wr.heap.size wr, p.W.cell? ⟨g, k * 3 + 1, none⟩ = some (.int .i64 xj) := Later.cell x1 hgw
                have f2 : ∀ p : Later wr.heap.size wr, p.W.cell? ⟨g, m * 3 + 1, none⟩ = some (.int .i64 yj) := Later.cell y1 hgw
                refine Later.wp_region_later (wr.heap.size) (by kernel_rfl) (by kernel_rfl) ?_
                repeat (first | go_big_quiet_step ((fail)) | quiet_step ((fail)))
                refine wpQuiet_nil ?_
                rintro w4 ⟨q4, hq4⟩
                have b4 := q4.h
                rw [← hq4] at b4
                clear hq4 q4
                have B4 := hB.trans (b4.mono hsz)
                have h1 : ∀ p : Later wr.heap.size w4, p.W.cell? ⟨g, k * 3 + 1, none⟩ = some (.int .i64 xj) := Later.cell ((b4.cell (p := ⟨g, k * 3 + 1, none⟩) hgw).trans x1) hgw
                have h2 : ∀ p : Later wr.heap.size w4, p.W.cell? ⟨g, k * 3 + 2, none⟩ = some (.bool xo) := Later.cell ((b4.cell (p := ⟨g, k * 3 + 2, none⟩) hgw).trans x2) hgw
                have h3 : ∀ p : Later wr.heap.size w4, p.W.cell? ⟨g, m * 3 + 1, none⟩ = some (.int .i64 yj) := Later.cell ((b4.cell (p := ⟨g, m * 3 + 1, none⟩) hgw).trans y1) hgw
                have h4 : ∀ p : Later wr.heap.size w4, p.W.cell? ⟨g, m * 3 + 2, none⟩ = some (.bool xo) := Later.cell ((b4.cell (p := ⟨g, m * 3 + 2, none⟩) hgw).trans y2) hgw
                clear f1 f2
                go_wp2_with fail
                refine Later.wp_region_later (wr.heap.size) (by kernel_rfl) (by kernel_rfl) ?_
                repeat (first | go_big_quiet_step ((fail)) | quiet_step ((fail)))
                refine wpQuiet_nil ?_
                rintro w5 ⟨q5, hq5⟩
                have b5 := q5.h
                rw [← hq5] at b5
                clear hq5 q5
                have B5 := B4.trans (b5.mono hsz)
                have HB5 := Lib.hid (HB.out w5 B5)
                clear h1 h2 h3 h4 x1 x2 y1 y2 b4 b5
                go_wp2_with fail
                refine HB5.out.mono ?_
                rintro e w' ⟨rfl, rfl⟩
                go_wp2
                go_roundw
                case rel => exact ⟨m + 1, by omega, by go_num, B5⟩
                case measure => simp [intOf]; omega
              · obtain rfl : yo = !xo := by cases xo <;> cases yo <;> simp_all
                clear ho
                by_cases j1 : xj - yj ≤ 2
                · by_cases j2 : -2 ≤ xj - yj
                  · by_cases j3 : 0 < xj + yj
                    · have ht : 0 ≤ t := by
                        have h1 : allow ⟨xe, xj, xo⟩ ⟨ye, yj, !xo⟩ = true := HAL.out.2 ⟨by cases xo <;> simp, j2, j1, by omega⟩
                        have := HALL.out; rw [h1] at this; simpa using this
                      go_wp2_with fail
                      have f1 : ∀ p : Later wr.heap.size wr, p.W.cell? ⟨g, k * 3 + 1, none⟩ = some (.int .i64 xj) := Later.cell x1 hgw
                      have f2 : ∀ p : Later wr.heap.size wr, p.W.cell? ⟨g, m * 3 + 1, none⟩ = some (.int .i64 yj) := Later.cell y1 hgw
                      refine Later.wp_region_later (wr.heap.size) (by kernel_rfl) (by kernel_rfl) ?_
                      repeat (first | go_big_quiet_step ((fail)) | quiet_step ((fail)))
                      refine wpQuiet_nil ?_
                      rintro w4 ⟨q4, hq4⟩
                      have b4 := q4.h
                      rw [← hq4] at b4
                      clear hq4 q4
                      have B4 := hB.trans (b4.mono hsz)
                      have h1 : ∀ p : Later wr.heap.size w4, p.W.cell? ⟨g, k * 3 + 1, none⟩ = some (.int .i64 xj) := Later.cell ((b4.cell (p := ⟨g, k * 3 + 1, none⟩) hgw).trans x1) hgw
                      have h2 : ∀ p : Later wr.heap.size w4, p.W.cell? ⟨g, k * 3 + 2, none⟩ = some (.bool xo) := Later.cell ((b4.cell (p := ⟨g, k * 3 + 2, none⟩) hgw).trans x2) hgw
                      have h3 : ∀ p : Later wr.heap.size w4, p.W.cell? ⟨g, m * 3 + 1, none⟩ = some (.int .i64 yj) := Later.cell ((b4.cell (p := ⟨g, m * 3 + 1, none⟩) hgw).trans y1) hgw
                      have h4 : ∀ p : Later wr.heap.size w4, p.W.cell? ⟨g, m * 3 + 2, none⟩ = some (.bool (!xo)) := Later.cell ((b4.cell (p := ⟨g, m * 3 + 2, none⟩) hgw).trans y2) hgw
                      clear f1 f2
                      go_wp2_with fail
                      refine Later.wp_region_later (wr.heap.size) (by kernel_rfl) (by kernel_rfl) ?_
                      repeat (first | go_big_quiet_step ((fail)) | quiet_step ((fail)))
                      refine wpQuiet_nil ?_
                      rintro w5 ⟨q5, hq5⟩
                      have b5 := q5.h
                      rw [← hq5] at b5
                      clear hq5 q5
                      have B5 := B4.trans (b5.mono hsz)
                      have HB5 := Lib.hid (HB.out w5 B5)
                      clear h1 h2 h3 h4 x1 x2 y1 y2 b4 b5
                      go_wp2_with fail
                      refine HB5.out.mono ?_
                      rintro e w' ⟨rfl, rfl⟩
                      go_wp2
                      go_roundw
                      case rel => exact ⟨m + 1, by omega, by go_num, B5⟩
                      case measure => simp [intOf]; omega
                    · have j3' : decide (0 < xj + yj) = false := decide_eq_false j3
                      have ht : t < 0 := by
                        have h1 : allow ⟨xe, xj, xo⟩ ⟨ye, yj, !xo⟩ = false := by
                          cases h : allow ⟨xe, xj, xo⟩ ⟨ye, yj, !xo⟩
                          · rfl
                          · have := (HAL.out.1 h).2.2.2; omega
                        have := HALL.out; rw [h1] at this; simpa using this
                      go_wp2_with fail
                      have f1 : ∀ p : Later wr.heap.size wr, p.W.cell? ⟨g, k * 3 + 1, none⟩ = some (.int .i64 xj) := Later.cell x1 hgw
                      have f2 : ∀ p : Later wr.heap.size wr, p.W.cell? ⟨g, m * 3 + 1, none⟩ = some (.int .i64 yj) := Later.cell y1 hgw
                      refine Later.wp_region_later (wr.heap.size) (by kernel_rfl) (by kernel_rfl) ?_
                      repeat (first | go_big_quiet_step ((fail)) | quiet_step ((fail)))
                      refine wpQuiet_nil ?_
                      rintro w4 ⟨q4, hq4⟩
                      have b4 := q4.h
                      rw [← hq4] at b4
                      clear hq4 q4
                      have B4 := hB.trans (b4.mono hsz)
                      have h1 : ∀ p : Later wr.heap.size w4, p.W.cell? ⟨g, k * 3 + 1, none⟩ = some (.int .i64 xj) := Later.cell ((b4.cell (p := ⟨g, k * 3 + 1, none⟩) hgw).trans x1) hgw
                      have h2 : ∀ p : Later wr.heap.size w4, p.W.cell? ⟨g, k * 3 + 2, none⟩ = some (.bool xo) := Later.cell ((b4.cell (p := ⟨g, k * 3 + 2, none⟩) hgw).trans x2) hgw
                      have h3 : ∀ p : Later wr.heap.size w4, p.W.cell? ⟨g, m * 3 + 1, none⟩ = some (.int .i64 yj) := Later.cell ((b4.cell (p := ⟨g, m * 3 + 1, none⟩) hgw).trans y1) hgw
                      have h4 : ∀ p : Later wr.heap.size w4, p.W.cell? ⟨g, m * 3 + 2, none⟩ = some (.bool (!xo)) := Later.cell ((b4.cell (p := ⟨g, m * 3 + 2, none⟩) hgw).trans y2) hgw
                      clear f1 f2
                      go_wp2_with fail
                      refine Later.wp_region_later (wr.heap.size) (by kernel_rfl) (by kernel_rfl) ?_
                      repeat (first | go_big_quiet_step ((fail)) | quiet_step ((fail)))
                      refine wpQuiet_nil ?_
                      rintro w5 ⟨q5, hq5⟩
                      have b5 := q5.h
                      rw [← hq5] at b5
                      clear hq5 q5
                      have B5 := B4.trans (b5.mono hsz)
                      have HB5 := Lib.hid (HB.out w5 B5)
                      clear h1 h2 h3 h4 x1 x2 y1 y2 b4 b5
                      go_wp2_with fail
                      refine HB5.out.mono ?_
                      rintro e w' ⟨rfl, rfl⟩
                      go_wp2
                      go_roundw
                      case rel => exact ⟨m + 1, by omega, by go_num, B5⟩
                      case measure => simp [intOf]; omega
                  · have j2' : decide (-2 ≤ xj - yj) = false := decide_eq_false j2
                    have ht : t < 0 := by
                      have h1 : allow ⟨xe, xj, xo⟩ ⟨ye, yj, !xo⟩ = false := by
                        cases h : allow ⟨xe, xj, xo⟩ ⟨ye, yj, !xo⟩
                        · rfl
                        · have := (HAL.out.1 h).2.1; omega
                      have := HALL.out; rw [h1] at this; simpa using this
                    go_wp2_with fail
                    have f1 : ∀ p : Later wr.heap.size wr, p.W.cell? ⟨g, k * 3 + 1, none⟩ = some (.int .i64 xj) := Later.cell x1 hgw
                    have f2 : ∀ p : Later wr.heap.size wr, p.W.cell? ⟨g, m * 3 + 1, none⟩ = some (.int .i64 yj) := Later.cell y1 hgw
                    refine Later.wp_region_later (wr.heap.size) (by kernel_rfl) (by kernel_rfl) ?_
                    repeat (first | go_big_quiet_step ((fail)) | quiet_step ((fail)))
                    refine wpQuiet_nil ?_
                    rintro w4 ⟨q4, hq4⟩
                    have b4 := q4.h
                    rw [← hq4] at b4
                    clear hq4 q4
                    have B4 := hB.trans (b4.mono hsz)
                    have h1 : ∀ p : Later wr.heap.size w4, p.W.cell? ⟨g, k * 3 + 1, none⟩ = some (.int .i64 xj) := Later.cell ((b4.cell (p := ⟨g, k * 3 + 1, none⟩) hgw).trans x1) hgw
                    have h2 : ∀ p : Later wr.heap.size w4, p.W.cell? ⟨g, k * 3 + 2, none⟩ = some (.bool xo) := Later.cell ((b4.cell (p := ⟨g, k * 3 + 2, none⟩) hgw).trans x2) hgw
                    have h3 : ∀ p : Later wr.heap.size w4, p.W.cell? ⟨g, m * 3 + 1, none⟩ = some (.int .i64 yj) := Later.cell ((b4.cell (p := ⟨g, m * 3 + 1, none⟩) hgw).trans y1) hgw
                    have h4 : ∀ p : Later wr.heap.size w4, p.W.cell? ⟨g, m * 3 + 2, none⟩ = some (.bool (!xo)) := Later.cell ((b4.cell (p := ⟨g, m * 3 + 2, none⟩) hgw).trans y2) hgw
                    clear f1 f2
                    go_wp2_with fail
                    refine Later.wp_region_later (wr.heap.size) (by kernel_rfl) (by kernel_rfl) ?_
                    repeat (first | go_big_quiet_step ((fail)) | quiet_step ((fail)))
                    refine wpQuiet_nil ?_
                    rintro w5 ⟨q5, hq5⟩
                    have b5 := q5.h
                    rw [← hq5] at b5
                    clear hq5 q5
                    have B5 := B4.trans (b5.mono hsz)
                    have HB5 := Lib.hid (HB.out w5 B5)
                    clear h1 h2 h3 h4 x1 x2 y1 y2 b4 b5
                    go_wp2_with fail
                    refine HB5.out.mono ?_
                    rintro e w' ⟨rfl, rfl⟩
                    go_wp2
                    go_roundw
                    case rel => exact ⟨m + 1, by omega, by go_num, B5⟩
                    case measure => simp [intOf]; omega
                · have j1' : decide (xj - yj ≤ 2) = false := decide_eq_false j1
                  have ht : t < 0 := by
                    have h1 : allow ⟨xe, xj, xo⟩ ⟨ye, yj, !xo⟩ = false := by
                      cases h : allow ⟨xe, xj, xo⟩ ⟨ye, yj, !xo⟩
                      · rfl
                      · have := (HAL.out.1 h).2.2.1; omega
                    have := HALL.out; rw [h1] at this; simpa using this
                  go_wp2_with fail
                  have f1 : ∀ p : Later wr.heap.size wr, p.W.cell? ⟨g, k * 3 + 1, none⟩ = some (.int .i64 xj) := Later.cell x1 hgw
                  have f2 : ∀ p : Later wr.heap.size wr, p.W.cell? ⟨g, m * 3 + 1, none⟩ = some (.int .i64 yj) := Later.cell y1 hgw
                  refine Later.wp_region_later (wr.heap.size) (by kernel_rfl) (by kernel_rfl) ?_
                  repeat (first | go_big_quiet_step ((fail)) | quiet_step ((fail)))
                  refine wpQuiet_nil ?_
                  rintro w4 ⟨q4, hq4⟩
                  have b4 := q4.h
                  rw [← hq4] at b4
                  clear hq4 q4
                  have B4 := hB.trans (b4.mono hsz)
                  have h1 : ∀ p : Later wr.heap.size w4, p.W.cell? ⟨g, k * 3 + 1, none⟩ = some (.int .i64 xj) := Later.cell ((b4.cell (p := ⟨g, k * 3 + 1, none⟩) hgw).trans x1) hgw
                  have h2 : ∀ p : Later wr.heap.size w4, p.W.cell? ⟨g, k * 3 + 2, none⟩ = some (.bool xo) := Later.cell ((b4.cell (p := ⟨g, k * 3 + 2, none⟩) hgw).trans x2) hgw
                  have h3 : ∀ p : Later wr.heap.size w4, p.W.cell? ⟨g, m * 3 + 1, none⟩ = some (.int .i64 yj) := Later.cell ((b4.cell (p := ⟨g, m * 3 + 1, none⟩) hgw).trans y1) hgw
                  have h4 : ∀ p : Later wr.heap.size w4, p.W.cell? ⟨g, m * 3 + 2, none⟩ = some (.bool (!xo)) := Later.cell ((b4.cell (p := ⟨g, m * 3 + 2, none⟩) hgw).trans y2) hgw
                  clear f1 f2
                  go_wp2_with fail
                  refine Later.wp_region_later (wr.heap.size) (by kernel_rfl) (by kernel_rfl) ?_
                  repeat (first | go_big_quiet_step ((fail)) | quiet_step ((fail)))
                  refine wpQuiet_nil ?_
                  rintro w5 ⟨q5, hq5⟩
                  have b5 := q5.h
                  rw [← hq5] at b5
                  clear hq5 q5
                  have B5 := B4.trans (b5.mono hsz)
                  have HB5 := Lib.hid (HB.out w5 B5)
                  clear h1 h2 h3 h4 x1 x2 y1 y2 b4 b5
                  go_wp2_with fail
                  refine HB5.out.mono ?_
                  rintro e w' ⟨rfl, rfl⟩
                  go_wp2
                  go_roundw
                  case rel => exact ⟨m + 1, by omega, by go_num, B5⟩
                  case measure => simp [intOf]; omega
            · obtain rfl : m = k := by omega
              go_wp2
              go_roundw
              case rel => exact ⟨m + 1, by omega, by go_num, hB⟩
              case measure => simp [intOf]; omega
        · go_wp2
          go_ret
          exact ⟨rfl, B3.trans (hB.mono B3.size)⟩

end Go.Proofs.Ytgkgdnocleajcaa.WFnLinesAll
