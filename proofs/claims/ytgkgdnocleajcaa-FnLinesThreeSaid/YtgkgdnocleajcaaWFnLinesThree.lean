/-
  The walk of the law FnLinesThree.
-/
import Derived.Test.YtgkgdnocleajcaaLinesCommon
namespace Go.Proofs.Ytgkgdnocleajcaa.WFnLinesThree
open Go.RowKit Go.Proofs.Ytgkgdnocleajcaa.Spin Go.Proofs.Ytgkgdnocleajcaa.Row Go.Proofs.Ytgkgdnocleajcaa.Plain Go.Proofs.Ytgkgdnocleajcaa.Later Go.Proofs.Ytgkgdnocleajcaa.Node Go.Proofs.Ytgkgdnocleajcaa.Line Go.Proofs.Ytgkgdnocleajcaa.LinesFn Go.Proofs.Ytgkgdnocleajcaa.LinesS Go.Proofs.Ytgkgdnocleajcaa.LinesP Go.Proofs.Ytgkgdnocleajcaa.RowsLine Go.Proofs.Ytgkgdnocleajcaa.RowsNode Go.Proofs.Ytgkgdnocleajcaa.Rd Go.Proofs.Ytgkgdnocleajcaa.DrawScheme Go.Proofs.Ytgkgdnocleajcaa.LinesHelp Go.Proofs.Ytgkgdnocleajcaa.SchemeLaws Go.Proofs.Ytgkgdnocleajcaa.LinesCommon
set_option linter.unusedVariables false
set_option linter.unusedSimpArgs false

set_option maxRecDepth 100000 in
set_option maxHeartbeats 4000000 in
theorem fnLinesThree (a : Option Addr) (n c : Nat) (zs : List Int) (w0 : World) (h : IsRow .u8 w0 a n c zs) :
    Calls Try.prog 10 #[.slice a n c] w0 (Yes w0) := by
  have HO := Lib.hid (drawSchemeLines a n c zs w0 h)
  clear h
  by_cases hn : 1048576 < n
  · go_enter Try.func10, Try.ntmps10
    go_wp2_with fail
    go_ret
    exact ⟨rfl, Below.refl _ _⟩
  · have hnI : (n : Int) ≤ 1048576 := by omega
    skip
    go_enter Try.func10, Try.ntmps10
    go_wp2_with fail
    refine HO.out.mono ?_
    rintro e w ⟨ns, v, hl, rfl, O, B0⟩
    clear HO hn
    go_wp2_with fail
    (with_reducible refine (iSchemeLines ns _ _ (Sees.of_own O)).mono ?_)
    rintro e w1 ⟨v1, rfl, O1, b1⟩
    have B1 := B0.trans (b1.mono B0.size)
    replace O := own_below O b1 (Nat.le_refl _)
    have hz1 := b1.size
    clear b1 B0
    go_wp2_with fail
    (with_reducible refine (sSchemeLines ns _ _ (Sees.of_own O)).mono ?_)
    rintro e w2 ⟨v2, rfl, O2, b2⟩
    have B2 := B1.trans (b2.mono B1.size)
    replace O := own_below O b2 (Nat.le_refl _)
    replace O1 := own_below O1 b2 (Nat.le_refl _)
    have hz2 := b2.size
    clear b2 B1
    obtain ⟨N, hN⟩ : ∃ N, N = (linesOf ns).length := ⟨_, rfl⟩
    have HNL := Lib.hid hN
    have hN144 : N ≤ 144 := by rw [hN]; exact linesOf_len ns
    have HS1 := Lib.hid (fun W (h : Below w2.heap.size w2 W) => Sees.of_own (own_below O1 h (Nat.le_refl _)))
    have HS2 := Lib.hid (fun W (h : Below w2.heap.size w2 W) => Sees.of_own (own_below O2 h (Nat.le_refl _)))
    rw [← hN] at O1
    clear hN
    obtain ⟨a1, c1, e1⟩ := slice_form O1
    subst e1
    have HEQ := Lib.hid (fun W (h : Below w2.heap.size w2 W) => sameLines (linesOf ns) _ _ W (HS1.out W h) (HS2.out W h))
    go_wp2_with fail
    refine (HEQ.out _ (Below.refl _ _)).mono ?_
    rintro e w3 ⟨rfl, b3⟩
    have B3 := B2.trans (b3.mono B2.size)
    have O3 := own_below O b3 (Nat.le_refl _)
    have O13 := own_below O1 b3 (Nat.le_refl _)
    have hz3 := b3.size
    by_cases hz : N = 0
    · have hz' : ((N : Int) == 0) = true := by rw [beq_iff_eq]; omega
      have HEQ3 := Lib.hid (HEQ.out w3 b3)
      clear hz
      go_wp2_with fail
      refine HEQ3.out.mono ?_
      rintro e w4 ⟨rfl, b4⟩
      go_wp2
      go_ret
      exact ⟨rfl, B3.trans (b4.mono B3.size)⟩
    · have hz' : ((N : Int) == 0) = false := by rw [beq_eq_false_iff_ne]; omega
      have hpos : 0 < N := by omega
      have hok : schemeOk ns = true := ok_of_pos (by have := HNL.out; omega)
      have HOK := Lib.hid hok
      have hm1 := (scheme_parts hok).1
      have hm2 := (scheme_parts hok).2.1
      obtain ⟨M, hM⟩ : ∃ M, M = ns.length := ⟨_, rfl⟩
      have HM := Lib.hid hM
      rw [← hM] at O3 hm1 hm2
      obtain ⟨g, cs, rfl, hg0, hg1, hgc, hgm, hcell⟩ := own_form O3 (by omega)
      obtain ⟨g1, cs1, e2, hg10, hg11, hgc1, hgm1, hcell1⟩ := own_form O13 hpos
      cases e2
      have HSN := Lib.hid (show Sees w3 3 (.slice (some ⟨g, 0, none⟩) M cs) M (ns.flatMap encN) from Sees.of_own O3)
      have HSL := Lib.hid (show Sees w3 3 (.slice (some ⟨g1, 0, none⟩) N c1) N ((linesOf ns).flatMap encLn) from Sees.of_own O13)
      have HCN := Lib.hid (fun (W : World) (h : Below w3.heap.size w3 W) (k : Nat) (hk : k < M) => node_cells (w := W) (ns := ns) (b := g) (o := 0) (fun j hj => (h.cell (p := ⟨g, 0 + j, none⟩) hg1).trans (hcell j (by omega))) k (by omega))
      have HCL := Lib.hid (fun (W : World) (h : Below w3.heap.size w3 W) (k : Nat) (hk : k < (linesOf ns).length) => line_cells (w := W) (xs := linesOf ns) (b := g1) (o := 0) (fun j hj => (h.cell (p := ⟨g1, 0 + j, none⟩) hg11).trans (hcell1 j (by have := HNL.out; omega))) k hk)
      unfold maxLen at hgm hgm1
      clear hz hok hM hcell hcell1 O O1 O2 O3 O13 b3 HEQ HS1 HS2 hl
      go_wp2_with fail
      go_loopw [6] (fun i wr => ∃ k : Nat, k ≤ M ∧ i = .int .i64 k ∧ wr = w3) (fun i _ => M - (intOf i).toNat)
      case atStart => exact ⟨0, by omega, rfl, rfl⟩
      case round =>
        obtain ⟨k, hk, rfl, rfl⟩ := hrel
        by_cases hlt : k < M
        · go_wp2
          go_loopw [7] (fun i wr' => ∃ m : Nat, m ≤ k ∧ i = .int .i64 m ∧ wr' = wr) (fun i _ => k - (intOf i).toNat)
          case atStart => exact ⟨0, by omega, rfl, rfl⟩
          case round =>
            obtain ⟨m, hm, rfl, rfl⟩ := hrel
            by_cases hmk : m < k
            · go_wp2
              go_loopw [8] (fun i wr'' => ∃ q : Nat, q ≤ m ∧ i = .int .i64 q ∧ wr'' = wr) (fun i _ => m - (intOf i).toNat)
              case atStart => exact ⟨0, by omega, rfl, rfl⟩
              case round =>
                obtain ⟨q, hq, rfl, rfl⟩ := hrel
                by_cases hqm : q < m
                · have HSW := Lib.hid (show Sees wr 3 (.slice (some ⟨g1, 0, none⟩) N c1) (linesOf ns).length ((linesOf ns).flatMap encLn) by have h := HSL.out; rw [HNL.out] at h ⊢; exact h)
                  have C0 := Lib.hid (lineBetween (linesOf ns) _ (k : Int) (m : Int) wr HSW.out)
                  have C1 := Lib.hid (lineBetween (linesOf ns) _ (k : Int) (q : Int) wr HSW.out)
                  have C2 := Lib.hid (lineBetween (linesOf ns) _ (m : Int) (q : Int) wr HSW.out)
                  have HNT := Lib.hid (fun h1 h2 h3 => no_three (ns := ns) (a := (k : Int)) (b := (m : Int)) (c := (q : Int)) h1 h2 h3)
                  generalize between (linesOf ns) (k : Int) (m : Int) = t0 at *
                  generalize between (linesOf ns) (k : Int) (q : Int) = t1 at *
                  generalize between (linesOf ns) (m : Int) (q : Int) = t2 at *
                  by_cases h0 : 0 ≤ t0
                  · by_cases h1 : 0 ≤ t1
                    · have h2 : t2 < 0 := by
                        by_cases h2 : 0 ≤ t2
                        · exact (HNT.out h0 h1 h2).elim
                        · omega
                      clear HNT
                      go_wp2_with fail
                      refine C0.out.mono ?_
                      rintro e w' ⟨rfl, rfl⟩
                      go_wp2_with fail
                      refine C1.out.mono ?_
                      rintro e w' ⟨rfl, rfl⟩
                      go_wp2_with fail
                      refine C2.out.mono ?_
                      rintro e w' ⟨rfl, rfl⟩
                      go_wp2
                      go_roundw
                      case rel => exact ⟨q + 1, by omega, by go_num, trivial⟩
                      case measure => simp [intOf]; omega
                    · clear HNT
                      go_wp2_with fail
                      refine C0.out.mono ?_
                      rintro e w' ⟨rfl, rfl⟩
                      go_wp2_with fail
                      refine C1.out.mono ?_
                      rintro e w' ⟨rfl, rfl⟩
                      go_wp2
                      go_roundw
                      case rel => exact ⟨q + 1, by omega, by go_num, trivial⟩
                      case measure => simp [intOf]; omega
                  · clear HNT
                    go_wp2_with fail
                    refine C0.out.mono ?_
                    rintro e w' ⟨rfl, rfl⟩
                    go_wp2
                    go_roundw
                    case rel => exact ⟨q + 1, by omega, by go_num, trivial⟩
                    case measure => simp [intOf]; omega
                · obtain rfl : q = m := by omega
                  go_wp2
                  go_roundw
                  case rel => exact ⟨q + 1, by omega, by go_num, trivial⟩
                  case measure => simp [intOf]; omega
            · obtain rfl : m = k := by omega
              go_wp2
              go_roundw
              case rel => exact ⟨m + 1, by omega, by go_num, trivial⟩
              case measure => simp [intOf]; omega
        · go_wp2
          go_ret
          exact ⟨rfl, B3⟩

end Go.Proofs.Ytgkgdnocleajcaa.WFnLinesThree
