/-
  The walk of the law FnLinesOrder.
-/
import Derived.Test.YtgkgdnocleajcaaLinesCommon
namespace Go.Proofs.Ytgkgdnocleajcaa.WFnLinesOrder
open Go.RowKit Go.Proofs.Ytgkgdnocleajcaa.Spin Go.Proofs.Ytgkgdnocleajcaa.Row Go.Proofs.Ytgkgdnocleajcaa.Plain Go.Proofs.Ytgkgdnocleajcaa.Later Go.Proofs.Ytgkgdnocleajcaa.Node Go.Proofs.Ytgkgdnocleajcaa.Line Go.Proofs.Ytgkgdnocleajcaa.LinesFn Go.Proofs.Ytgkgdnocleajcaa.LinesS Go.Proofs.Ytgkgdnocleajcaa.LinesP Go.Proofs.Ytgkgdnocleajcaa.RowsLine Go.Proofs.Ytgkgdnocleajcaa.RowsNode Go.Proofs.Ytgkgdnocleajcaa.Rd Go.Proofs.Ytgkgdnocleajcaa.DrawScheme Go.Proofs.Ytgkgdnocleajcaa.LinesHelp Go.Proofs.Ytgkgdnocleajcaa.SchemeLaws Go.Proofs.Ytgkgdnocleajcaa.LinesCommon
set_option linter.unusedVariables false
set_option linter.unusedSimpArgs false

set_option maxRecDepth 100000 in
set_option maxHeartbeats 4000000 in
theorem fnLinesOrder (a : Option Addr) (n c : Nat) (zs : List Int) (w0 : World) (h : IsRow .u8 w0 a n c zs) :
    Calls Try.prog 6 #[.slice a n c] w0 (Yes w0) := by
  have HO := Lib.hid (drawSchemeLines a n c zs w0 h)
  clear h
  by_cases hn : 1048576 < n
  · go_enter Try.func6, Try.ntmps6
    go_wp2_with fail
    go_ret
    exact ⟨rfl, Below.refl _ _⟩
  · go_enter Try.func6, Try.ntmps6
    go_wp2_with fail
    refine HO.out.mono ?_
    rintro e w ⟨ns, v, hl, rfl, O, B0⟩
    clear HO hn
    go_wp2_with fail
    (with_reducible refine (iSchemeLines ns _ _ (Sees.of_own O)).mono ?_)
    rintro e w1 ⟨v1, rfl, O1, b1⟩
    have B1 := B0.trans (b1.mono B0.size)
    replace O := own_below O b1 (Nat.le_refl _)
    have hz1 := b1.size
    clear b1 B0
    go_wp2_with fail
    (with_reducible refine (sSchemeLines ns _ _ (Sees.of_own O)).mono ?_)
    rintro e w2 ⟨v2, rfl, O2, b2⟩
    have B2 := B1.trans (b2.mono B1.size)
    replace O := own_below O b2 (Nat.le_refl _)
    replace O1 := own_below O1 b2 (Nat.le_refl _)
    have hz2 := b2.size
    clear b2 B1
    obtain ⟨N, hN⟩ : ∃ N, N = (linesOf ns).length := ⟨_, rfl⟩
    have HNL := Lib.hid hN
    have hN144 : N ≤ 144 := by rw [hN]; exact linesOf_len ns
    have HS1 := Lib.hid (fun W (h : Below w2.heap.size w2 W) => Sees.of_own (own_below O1 h (Nat.le_refl _)))
    have HS2 := Lib.hid (fun W (h : Below w2.heap.size w2 W) => Sees.of_own (own_below O2 h (Nat.le_refl _)))
    rw [← hN] at O1
    clear hN
    obtain ⟨a1, c1, e1⟩ := slice_form O1
    subst e1
    have HEQ := Lib.hid (fun W (h : Below w2.heap.size w2 W) => sameLines (linesOf ns) _ _ W (HS1.out W h) (HS2.out W h))
    go_wp2_with fail
    refine (HEQ.out _ (Below.refl _ _)).mono ?_
    rintro e w3 ⟨rfl, b3⟩
    have B3 := B2.trans (b3.mono B2.size)
    have O3 := own_below O b3 (Nat.le_refl _)
    have O13 := own_below O1 b3 (Nat.le_refl _)
    have hz3 := b3.size
    by_cases hz : N = 0
    · have hz' : ((N : Int) == 0) = true := by rw [beq_iff_eq]; omega
      have HEQ3 := Lib.hid (HEQ.out w3 b3)
      clear hz
      go_wp2_with fail
      refine HEQ3.out.mono ?_
      rintro e w4 ⟨rfl, b4⟩
      go_wp2
      go_ret
      exact ⟨rfl, B3.trans (b4.mono B3.size)⟩
    · have hz' : ((N : Int) == 0) = false := by rw [beq_eq_false_iff_ne]; omega
      have hpos : 0 < N := by omega
      have hok : schemeOk ns = true := ok_of_pos (by have := HNL.out; omega)
      have HOK := Lib.hid hok
      have hm1 := (scheme_parts hok).1
      have hm2 := (scheme_parts hok).2.1
      obtain ⟨M, hM⟩ : ∃ M, M = ns.length := ⟨_, rfl⟩
      have HM := Lib.hid hM
      rw [← hM] at O3 hm1 hm2
      obtain ⟨g, cs, rfl, hg0, hg1, hgc, hgm, hcell⟩ := own_form O3 (by omega)
      obtain ⟨g1, cs1, e2, hg10, hg11, hgc1, hgm1, hcell1⟩ := own_form O13 hpos
      cases e2
      have HSN := Lib.hid (show Sees w3 3 (.slice (some ⟨g, 0, none⟩) M cs) M (ns.flatMap encN) from Sees.of_own O3)
      have HSL := Lib.hid (show Sees w3 3 (.slice (some ⟨g1, 0, none⟩) N c1) N ((linesOf ns).flatMap encLn) from Sees.of_own O13)
      have HCN := Lib.hid (fun (W : World) (h : Below w3.heap.size w3 W) (k : Nat) (hk : k < M) => node_cells (w := W) (ns := ns) (b := g) (o := 0) (fun j hj => (h.cell (p := ⟨g, 0 + j, none⟩) hg1).trans (hcell j (by omega))) k (by omega))
      have HCL := Lib.hid (fun (W : World) (h : Below w3.heap.size w3 W) (k : Nat) (hk : k < (linesOf ns).length) => line_cells (w := W) (xs := linesOf ns) (b := g1) (o := 0) (fun j hj => (h.cell (p := ⟨g1, 0 + j, none⟩) hg11).trans (hcell1 j (by have := HNL.out; omega))) k hk)
      unfold maxLen at hgm hgm1
      clear hz hok hM hcell hcell1 O O1 O2 O3 O13 b3 HEQ HS1 HS2 hl
      go_wp2
      go_loopw [6] (fun i wr => ∃ q : Nat, q + 1 ≤ N ∧ i = .int .i64 ((q + 1 : Nat) : Int) ∧ Below w3.heap.size w3 wr) (fun i _ => N - (intOf i).toNat)
      case atStart => exact ⟨0, by omega, rfl, Below.refl _ _⟩
      case round =>
        obtain ⟨q, hk, rfl, hB⟩ := hrel
        have hsz := hB.size
        by_cases hlt : q + 1 < N
        · have hkl : q + 1 < (linesOf ns).length := by have := HNL.out; omega
          obtain ⟨u0, u1, u2⟩ := HCL.out wr hB (q + 1) hkl
          obtain ⟨v0, v1, v2⟩ := HCL.out wr hB q (by omega)
          have hpw := lt_iff.1 (List.pairwise_iff_getElem.1 (lines_lt ns) q (q + 1) (by omega) hkl (by omega))
          simp only [Nat.zero_add] at u0 u1 u2 v0 v1 v2
          generalize (linesOf ns)[q + 1] = y at *
          generalize (linesOf ns)[q] = x at *
          obtain ⟨yu, yl, yn⟩ := y
          obtain ⟨xu, xl, xn⟩ := x
          simp only at u0 u1 u2 v0 v1 v2 hpw
          have hg1w : g1 < wr.heap.size := by omega
          have hlt' : (q : Int) + 1 < (N : Int) := by omega
          rcases hpw with h1 | ⟨rfl, h2 | ⟨rfl, h3⟩⟩
          · have h1' : (xn == yn) = false := by rw [beq_eq_false_iff_ne]; omega
            go_wp2
            go_roundw
            case rel => exact ⟨q + 1, by omega, by go_num, (by repeat (first | (with_reducible refine Below.drew ?_) | (with_reducible refine below_drewN ?_ _) | (with_reducible refine Below.alloc ?_ ?_ _) | (with_reducible refine Below.setCell ?_ ?_ _) | (with_reducible assumption) | (with_reducible exact Below.refl _ _) | omega | (simp <;> omega)))⟩
            case measure => simp [intOf]; omega
          · have h2' : ((xu : Int) == (yu : Int)) = false := by rw [beq_eq_false_iff_ne]; omega
            have h2n : ¬ xu = yu := by omega
            go_wp2
            go_roundw
            case rel => exact ⟨q + 1, by omega, by go_num, (by repeat (first | (with_reducible refine Below.drew ?_) | (with_reducible refine below_drewN ?_ _) | (with_reducible refine Below.alloc ?_ ?_ _) | (with_reducible refine Below.setCell ?_ ?_ _) | (with_reducible assumption) | (with_reducible exact Below.refl _ _) | omega | (simp <;> omega)))⟩
            case measure => simp [intOf]; omega
          · go_wp2
            go_roundw
            case rel => exact ⟨q + 1, by omega, by go_num, (by repeat (first | (with_reducible refine Below.drew ?_) | (with_reducible refine below_drewN ?_ _) | (with_reducible refine Below.alloc ?_ ?_ _) | (with_reducible refine Below.setCell ?_ ?_ _) | (with_reducible assumption) | (with_reducible exact Below.refl _ _) | omega | (simp <;> omega)))⟩
            case measure => simp [intOf]; omega
        · have hlt' : ¬ (q : Int) + 1 < (N : Int) := by omega
          go_wp2
          go_ret
          exact ⟨rfl, B3.trans (hB.mono B3.size)⟩

end Go.Proofs.Ytgkgdnocleajcaa.WFnLinesOrder
