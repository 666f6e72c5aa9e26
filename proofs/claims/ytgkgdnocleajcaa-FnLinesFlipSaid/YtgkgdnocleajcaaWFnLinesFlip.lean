/-
  The walk of the law FnLinesFlip.
-/
import Derived.Test.YtgkgdnocleajcaaLinesCommon
namespace Go.Proofs.Ytgkgdnocleajcaa.WFnLinesFlip
open Go.RowKit Go.Proofs.Ytgkgdnocleajcaa.Spin Go.Proofs.Ytgkgdnocleajcaa.Row Go.Proofs.Ytgkgdnocleajcaa.Plain Go.Proofs.Ytgkgdnocleajcaa.Later Go.Proofs.Ytgkgdnocleajcaa.Node Go.Proofs.Ytgkgdnocleajcaa.Line Go.Proofs.Ytgkgdnocleajcaa.LinesFn Go.Proofs.Ytgkgdnocleajcaa.LinesS Go.Proofs.Ytgkgdnocleajcaa.LinesP Go.Proofs.Ytgkgdnocleajcaa.RowsLine Go.Proofs.Ytgkgdnocleajcaa.RowsNode Go.Proofs.Ytgkgdnocleajcaa.Rd Go.Proofs.Ytgkgdnocleajcaa.DrawScheme Go.Proofs.Ytgkgdnocleajcaa.LinesHelp Go.Proofs.Ytgkgdnocleajcaa.SchemeLaws Go.Proofs.Ytgkgdnocleajcaa.LinesCommon
set_option linter.unusedVariables false
set_option linter.unusedSimpArgs false

set_option maxRecDepth 100000 in
set_option maxHeartbeats 4000000 in
theorem fnLinesFlip (a : Option Addr) (n c : Nat) (zs : List Int) (w0 : World) (h : IsRow .u8 w0 a n c zs) :
    Calls Try.prog 7 #[.slice a n c] w0 (Yes w0) := by
  have HO := Lib.hid (drawSchemeLines a n c zs w0 h)
  clear h
  by_cases hn : 1048576 < n
  · go_enter Try.func7, Try.ntmps7
    go_wp2_with fail
    go_ret
    exact ⟨rfl, Below.refl _ _⟩
  · have hnI : (n : Int) ≤ 1048576 := by omega
    skip
    go_enter Try.func7, Try.ntmps7
    go_wp2_with fail
    refine HO.out.mono ?_
    rintro e w ⟨ns, v, hl, rfl, O, B0⟩
    clear HO hn
    go_wp2_with fail
    (with_reducible refine (iSchemeLines ns _ _ (Sees.of_own O)).mono ?_)
    rintro e w1 ⟨v1, rfl, O1, b1⟩
    have B1 := B0.trans (b1.mono B0.size)
    replace O := own_below O b1 (Nat.le_refl _)
    have hz1 := b1.size
    clear b1 B0
    go_wp2_with fail
    (with_reducible refine (sSchemeLines ns _ _ (Sees.of_own O)).mono ?_)
    rintro e w2 ⟨v2, rfl, O2, b2⟩
    have B2 := B1.trans (b2.mono B1.size)
    replace O := own_below O b2 (Nat.le_refl _)
    replace O1 := own_below O1 b2 (Nat.le_refl _)
    have hz2 := b2.size
    clear b2 B1
    obtain ⟨N, hN⟩ : ∃ N, N = (linesOf ns).length := ⟨_, rfl⟩
    have HNL := Lib.hid hN
    have hN144 : N ≤ 144 := by rw [hN]; exact linesOf_len ns
    have HS1 := Lib.hid (fun W (h : Below w2.heap.size w2 W) => Sees.of_own (own_below O1 h (Nat.le_refl _)))
    have HS2 := Lib.hid (fun W (h : Below w2.heap.size w2 W) => Sees.of_own (own_below O2 h (Nat.le_refl _)))
    rw [← hN] at O1
    clear hN
    obtain ⟨a1, c1, e1⟩ := slice_form O1
    subst e1
    have HEQ := Lib.hid (fun W (h : Below w2.heap.size w2 W) => sameLines (linesOf ns) _ _ W (HS1.out W h) (HS2.out W h))
    go_wp2_with fail
    refine (HEQ.out _ (Below.refl _ _)).mono ?_
    rintro e w3 ⟨rfl, b3⟩
    have B3 := B2.trans (b3.mono B2.size)
    have O3 := own_below O b3 (Nat.le_refl _)
    have O13 := own_below O1 b3 (Nat.le_refl _)
    have hz3 := b3.size
    by_cases hz : N = 0
    · have hz' : ((N : Int) == 0) = true := by rw [beq_iff_eq]; omega
      have HEQ3 := Lib.hid (HEQ.out w3 b3)
      clear hz
      go_wp2_with fail
      refine HEQ3.out.mono ?_
      rintro e w4 ⟨rfl, b4⟩
      go_wp2
      go_ret
      exact ⟨rfl, B3.trans (b4.mono B3.size)⟩
    · have hz' : ((N : Int) == 0) = false := by rw [beq_eq_false_iff_ne]; omega
      have hpos : 0 < N := by omega
      have hok : schemeOk ns = true := ok_of_pos (by have := HNL.out; omega)
      have HOK := Lib.hid hok
      have hm1 := (scheme_parts hok).1
      have hm2 := (scheme_parts hok).2.1
      obtain ⟨M, hM⟩ : ∃ M, M = ns.length := ⟨_, rfl⟩
      have HM := Lib.hid hM
      rw [← hM] at O3 hm1 hm2
      obtain ⟨g, cs, rfl, hg0, hg1, hgc, hgm, hcell⟩ := own_form O3 (by omega)
      obtain ⟨g1, cs1, e2, hg10, hg11, hgc1, hgm1, hcell1⟩ := own_form O13 hpos
      cases e2
      have HSN := Lib.hid (show Sees w3 3 (.slice (some ⟨g, 0, none⟩) M cs) M (ns.flatMap encN) from Sees.of_own O3)
      have HSL := Lib.hid (show Sees w3 3 (.slice (some ⟨g1, 0, none⟩) N c1) N ((linesOf ns).flatMap encLn) from Sees.of_own O13)
      have HCN := Lib.hid (fun (W : World) (h : Below w3.heap.size w3 W) (k : Nat) (hk : k < M) => node_cells (w := W) (ns := ns) (b := g) (o := 0) (fun j hj => (h.cell (p := ⟨g, 0 + j, none⟩) hg1).trans (hcell j (by omega))) k (by omega))
      have HCL := Lib.hid (fun (W : World) (h : Below w3.heap.size w3 W) (k : Nat) (hk : k < (linesOf ns).length) => line_cells (w := W) (xs := linesOf ns) (b := g1) (o := 0) (fun j hj => (h.cell (p := ⟨g1, 0 + j, none⟩) hg11).trans (hcell1 j (by have := HNL.out; omega))) k hk)
      unfold maxLen at hgm hgm1
      clear hz hok hM hcell hcell1 O O1 O2 O3 O13 b3 HEQ HS1 HS2 hl
      go_wp2_with fail
      have B := B3
      have e1 : (linesOf (ns.map flipN)) = linesOf ns := lines_flip ns
      have HFL := Lib.hid (flipped ns (.slice (some ⟨g, 0, none⟩) M cs) w3 (by have h := HSN.out; rw [HM.out] at h ⊢; exact h) (by have := HM.out; omega) (by have := HM.out; omega))
      go_wp2_with fail
      refine HFL.out.mono ?_
      rintro e w4 ⟨v4, rfl, O4, b4⟩
      have B4 := B3.trans (b4.mono B3.size)
      have HIL := iSchemeLines (ns.map flipN) v4 w4 (Sees.of_own O4)
      rw [e1] at HIL
      have HI2 := Lib.hid HIL
      clear e1 HIL HFL
      go_wp2_with fail
      refine HI2.out.mono ?_
      rintro e w5 ⟨v5, rfl, O5, b5⟩
      have B5 := B4.trans (b5.mono B4.size)
      have b35 : Below w3.heap.size w3 w5 := b4.trans (b5.mono b4.size)
      have HEQ := Lib.hid (sameLines (linesOf ns) v5 (.slice (some ⟨g1, 0, none⟩) N c1) w5 (Sees.of_own O5) (by have h := HSL.out.below b35 (Nat.le_refl _); rw [HNL.out] at h ⊢; exact h))
      clear HI2 O5 O4 b4 b5 b35
      go_wp2_with fail
      refine HEQ.out.mono ?_
      rintro e w6 ⟨rfl, b6⟩
      have B6 := B5.trans (b6.mono B5.size)
      clear HEQ b6
      go_wp2
      go_ret
      exact ⟨rfl, B6⟩

end Go.Proofs.Ytgkgdnocleajcaa.WFnLinesFlip
