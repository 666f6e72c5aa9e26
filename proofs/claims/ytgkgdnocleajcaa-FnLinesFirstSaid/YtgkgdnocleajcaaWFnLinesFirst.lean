/-
  The walk of the law FnLinesFirst.
-/
import Derived.Test.YtgkgdnocleajcaaLinesCommon
namespace Go.Proofs.Ytgkgdnocleajcaa.WFnLinesFirst
open Go.RowKit Go.Proofs.Ytgkgdnocleajcaa.Spin Go.Proofs.Ytgkgdnocleajcaa.Row Go.Proofs.Ytgkgdnocleajcaa.Plain Go.Proofs.Ytgkgdnocleajcaa.Later Go.Proofs.Ytgkgdnocleajcaa.Node Go.Proofs.Ytgkgdnocleajcaa.Line Go.Proofs.Ytgkgdnocleajcaa.LinesFn Go.Proofs.Ytgkgdnocleajcaa.LinesS Go.Proofs.Ytgkgdnocleajcaa.LinesP Go.Proofs.Ytgkgdnocleajcaa.RowsLine Go.Proofs.Ytgkgdnocleajcaa.RowsNode Go.Proofs.Ytgkgdnocleajcaa.Rd Go.Proofs.Ytgkgdnocleajcaa.DrawScheme Go.Proofs.Ytgkgdnocleajcaa.LinesHelp Go.Proofs.Ytgkgdnocleajcaa.SchemeLaws Go.Proofs.Ytgkgdnocleajcaa.LinesCommon
set_option linter.unusedVariables false
set_option linter.unusedSimpArgs false

set_option maxRecDepth 100000 in
set_option maxHeartbeats 4000000 in
theorem fnLinesFirst (a : Option Addr) (n c : Nat) (zs : List Int) (a2 : Option Addr) (n2 c2 : Nat) (zs2 : List Int) (w0 : World) (h : IsRow .u8 w0 a n c zs) (h2 : IsRow .u8 w0 a2 n2 c2 zs2) :
    Calls Try.prog 11 #[.slice a n c, .slice a2 n2 c2] w0 (Yes w0) := by
  have HO := Lib.hid (drawSchemeLines a n c zs w0 h)
  have hn2m : n2 ≤ 9223372036854775807 := by
    rcases h2 with ⟨_, h2, _⟩ | ⟨_, _, h2, h3, _⟩
    · omega
    · unfold maxLen at h3; omega
  clear h h2
  by_cases hn : 1048576 < n
  · go_enter Try.func11, Try.ntmps11
    go_wp2_with fail
    go_ret
    exact ⟨rfl, Below.refl _ _⟩
  by_cases hn2 : 1048576 < n2
  · go_enter Try.func11, Try.ntmps11
    go_wp2_with fail
    all_goals go_ret
    all_goals exact ⟨rfl, Below.refl _ _⟩
  · have hnI : (n : Int) ≤ 1048576 := by omega
    have hn2I : (n2 : Int) ≤ 1048576 := by omega
    go_enter Try.func11, Try.ntmps11
    go_wp2_with fail
    refine HO.out.mono ?_
    rintro e w ⟨ns, v, hl, rfl, O, B0⟩
    clear HO hn
    go_wp2_with fail
    (with_reducible refine (iSchemeLines ns _ _ (Sees.of_own O)).mono ?_)
    rintro e w1 ⟨v1, rfl, O1, b1⟩
    have B1 := B0.trans (b1.mono B0.size)
    replace O := own_below O b1 (Nat.le_refl _)
    have hz1 := b1.size
    clear b1 B0
    go_wp2_with fail
    (with_reducible refine (sSchemeLines ns _ _ (Sees.of_own O)).mono ?_)
    rintro e w2 ⟨v2, rfl, O2, b2⟩
    have B2 := B1.trans (b2.mono B1.size)
    replace O := own_below O b2 (Nat.le_refl _)
    replace O1 := own_below O1 b2 (Nat.le_refl _)
    have hz2 := b2.size
    clear b2 B1
    obtain ⟨N, hN⟩ : ∃ N, N = (linesOf ns).length := ⟨_, rfl⟩
    have HNL := Lib.hid hN
    have hN144 : N ≤ 144 := by rw [hN]; exact linesOf_len ns
    have HS1 := Lib.hid (fun W (h : Below w2.heap.size w2 W) => Sees.of_own (own_below O1 h (Nat.le_refl _)))
    have HS2 := Lib.hid (fun W (h : Below w2.heap.size w2 W) => Sees.of_own (own_below O2 h (Nat.le_refl _)))
    rw [← hN] at O1
    clear hN
    obtain ⟨a1, c1, e1⟩ := slice_form O1
    subst e1
    have HEQ := Lib.hid (fun W (h : Below w2.heap.size w2 W) => sameLines (linesOf ns) _ _ W (HS1.out W h) (HS2.out W h))
    go_wp2_with fail
    refine (HEQ.out _ (Below.refl _ _)).mono ?_
    rintro e w3 ⟨rfl, b3⟩
    have B3 := B2.trans (b3.mono B2.size)
    have O3 := own_below O b3 (Nat.le_refl _)
    have O13 := own_below O1 b3 (Nat.le_refl _)
    have hz3 := b3.size
    by_cases hz : N = 0
    · have hz' : ((N : Int) == 0) = true := by rw [beq_iff_eq]; omega
      have HEQ3 := Lib.hid (HEQ.out w3 b3)
      clear hz
      go_wp2_with fail
      refine HEQ3.out.mono ?_
      rintro e w4 ⟨rfl, b4⟩
      go_wp2
      go_ret
      exact ⟨rfl, B3.trans (b4.mono B3.size)⟩
    · have hz' : ((N : Int) == 0) = false := by rw [beq_eq_false_iff_ne]; omega
      have hpos : 0 < N := by omega
      have hok : schemeOk ns = true := ok_of_pos (by have := HNL.out; omega)
      have HOK := Lib.hid hok
      have hm1 := (scheme_parts hok).1
      have hm2 := (scheme_parts hok).2.1
      obtain ⟨M, hM⟩ : ∃ M, M = ns.length := ⟨_, rfl⟩
      have HM := Lib.hid hM
      rw [← hM] at O3 hm1 hm2
      obtain ⟨g, cs, rfl, hg0, hg1, hgc, hgm, hcell⟩ := own_form O3 (by omega)
      obtain ⟨g1, cs1, e2, hg10, hg11, hgc1, hgm1, hcell1⟩ := own_form O13 hpos
      cases e2
      have HSN := Lib.hid (show Sees w3 3 (.slice (some ⟨g, 0, none⟩) M cs) M (ns.flatMap encN) from Sees.of_own O3)
      have HSL := Lib.hid (show Sees w3 3 (.slice (some ⟨g1, 0, none⟩) N c1) N ((linesOf ns).flatMap encLn) from Sees.of_own O13)
      have HCN := Lib.hid (fun (W : World) (h : Below w3.heap.size w3 W) (k : Nat) (hk : k < M) => node_cells (w := W) (ns := ns) (b := g) (o := 0) (fun j hj => (h.cell (p := ⟨g, 0 + j, none⟩) hg1).trans (hcell j (by omega))) k (by omega))
      have HCL := Lib.hid (fun (W : World) (h : Below w3.heap.size w3 W) (k : Nat) (hk : k < (linesOf ns).length) => line_cells (w := W) (xs := linesOf ns) (b := g1) (o := 0) (fun j hj => (h.cell (p := ⟨g1, 0 + j, none⟩) hg11).trans (hcell1 j (by have := HNL.out; omega))) k hk)
      unfold maxLen at hgm hgm1
      clear hz hok hM hcell hcell1 O O1 O2 O3 O13 b3 HEQ HS1 HS2 hl
      have hmod0 : (0 : Int) ≤ (n2 : Int) % (M : Int) := Int.emod_nonneg _ (by omega)
      have hmod1 : (n2 : Int) % (M : Int) < (M : Int) := Int.emod_lt_of_pos _ (by omega)
      go_wp2_with fail
      have hM0 : (0 : Int) < (M : Int) := by omega
      obtain ⟨r, hr⟩ : ∃ r : Nat, r = n2 % M := ⟨_, rfl⟩
      have hrl : r < M := by rw [hr]; exact Nat.mod_lt _ (by omega)
      obtain ⟨K, hK⟩ : ∃ K : Nat, K = 1 + r := ⟨_, rfl⟩
      have hre : 1 + (n2 : Int) % (M : Int) = (K : Int) := by rw [hK, hr, Int.natCast_add, Int.natCast_emod]; rfl
      have hK1 : 1 ≤ K := by omega
      have hK2 : K ≤ M := by omega
      clear hr hK hrl
      obtain ⟨i0, hi, hz0, hz1, hz2⟩ := info_parts infoLine
      have HI := Lib.hid hi
      have HZ0 := Lib.hid hz0
      have HZ1 := Lib.hid hz1
      have HZ2 := Lib.hid hz2
      clear hi hz0 hz1 hz2
      have HE0 := Lib.hid (own_emptyL w3 w3.heap.size (Nat.le_refl _))
      rw [hre]
      clear hre hmod0 hmod1
      go_wp2
      go_loopw [9, 10] (fun u i wr => ∃ (m : Nat) (v1 : Value), v1 = u ∧ m ≤ N ∧ i = .int .i64 m ∧ wr.ownsRow w3.heap.size 39 3 v1 (((linesOf ns).take m).filter (fun x => decide (x.u < K))).length ((((linesOf ns).take m).filter (fun x => decide (x.u < K))).flatMap encLn) ∧ Below w3.heap.size w3 wr) (fun _ i _ => N - (intOf i).toNat)
      case atStart => exact ⟨0, _, rfl, by omega, rfl, by simpa using HE0.out, (by repeat (first | (with_reducible refine Below.drew ?_) | (with_reducible refine below_drewN ?_ _) | (with_reducible refine Below.alloc ?_ ?_ _) | (with_reducible refine Below.setCell ?_ ?_ _) | (with_reducible assumption) | (with_reducible exact Below.refl _ _) | omega | (simp <;> omega)))⟩
      case round =>
        obtain ⟨m, v1, rfl, hm, rfl, hown, hB⟩ := hrel
        have hsz := hB.size
        by_cases hlt : m < N
        · have hkl : m < (linesOf ns).length := by have := HNL.out; omega
          obtain ⟨u0, u1, u2⟩ := HCL.out wr hB m hkl
          simp only [Nat.zero_add] at u0 u1 u2
          have hT : (linesOf ns).take (m + 1) = (linesOf ns).take m ++ [(linesOf ns)[m]] := List.take_succ_eq_append_getElem hkl
          have hfl : (((linesOf ns).take m).filter (fun x => decide (x.u < K))).length ≤ 144 := Nat.le_trans (List.length_filter_le _ _) (by rw [List.length_take]; omega)
          have HT := Lib.hid hT
          have hg1w : g1 < wr.heap.size := by omega
          clear hT
          generalize (linesOf ns)[m] = y at *
          obtain ⟨yu, yl, yn⟩ := y
          simp only at u0 u1 u2
          by_cases hy : yu < K
          · have HF := Lib.hid (show ((linesOf ns).take (m + 1)).filter (fun x => decide (x.u < K)) = ((linesOf ns).take m).filter (fun x => decide (x.u < K)) ++ [(⟨yu, yl, yn⟩ : Ln)] by rw [HT.out, List.filter_append]; simp [hy])
            obtain ⟨F, hF⟩ : ∃ F, F = ((linesOf ns).take m).filter (fun x => decide (x.u < K)) := ⟨_, rfl⟩
            rw [← hF] at hown hfl HF
            obtain ⟨fl, hfl'⟩ : ∃ fl, fl = F.length := ⟨_, rfl⟩
            have HFL := Lib.hid hfl'
            rw [← hfl'] at hown hfl
            clear hF hfl'
            go_wp2_with (at_builtin; refine wpList_append_own _ rfl _ _ 35 rfl w3.heap.size 39 i0 (.agg #[.int .i64 0, .int .i64 0, .int .i64 0]) 3 24 Try.underlying35 HI.out HZ0.out HZ1.out HZ2.out rfl (by decide) _ _ _ rfl (hown.alloc _) ⟨wr.heap.size, 0, none⟩ 1 1 [.int .i64 (yu : Int), .int .i64 (yl : Int), .int .i64 yn] rfl rfl (cells_new _ _ _) (by simp [Value.oneCell']) (by unfold maxLen; omega) (by omega) (by simp; omega) ?_)
            intro v' w4 hown' hgrow _
            have B4 := own_step hB (Nat.le_refl _) hgrow (fun k hk => (hown.lt k hk).1)
            have O4 : w4.ownsRow w3.heap.size 39 3 v' (F ++ [(⟨yu, yl, yn⟩ : Ln)]).length ((F ++ [(⟨yu, yl, yn⟩ : Ln)]).flatMap encLn) := by
              rw [List.flatMap_append, List.length_append, ← HFL.out]
              exact hown'
            clear hown' hgrow hown u0 u1 u2
            go_wp2
            go_roundw
            case rel => exact ⟨m + 1, v', rfl, by omega, by go_num, by rw [HF.out]; exact O4, B4⟩
            case measure => simp [intOf]; omega
          · have HF := Lib.hid (show ((linesOf ns).take (m + 1)).filter (fun x => decide (x.u < K)) = ((linesOf ns).take m).filter (fun x => decide (x.u < K)) by rw [HT.out, List.filter_append]; simp [hy])
            go_wp2
            go_roundw
            case rel => exact ⟨m + 1, v1, rfl, by omega, by go_num, by rw [HF.out]; exact hown, hB⟩
            case measure => simp [intOf]; omega
        · obtain rfl : m = N := by omega
          have e1 : (linesOf ns).take m = linesOf ns := List.take_of_length_le (by have := HNL.out; omega)
          rw [e1, show (linesOf ns).filter (fun x => decide (x.u < K)) = linesOf (ns.take K) from (lines_take HOK.out hK1 (by have := HM.out; omega)).symm] at hown
          have HS := Lib.hid (sees_take encN_len HM.out (HSN.out.below hB (Nat.le_refl _)) K (by omega) (by omega))
          have HIL := Lib.hid (iSchemeLines (ns.take K) _ wr HS.out)
          have hrc : (K : Int) ≤ (cs : Int) := by omega
          clear e1
          go_wp2_with fail
          (with_reducible refine HIL.out.mono ?_)
          rintro e w5 ⟨v5, rfl, O5, b5⟩
          have B5 := hB.trans (b5.mono hsz)
          have HEQ := Lib.hid (sameLines (linesOf (ns.take K)) v5 v1 w5 (Sees.of_own O5) (Sees.of_own (own_below hown b5 (Nat.le_refl _))))
          clear HIL O5 hown HS
          go_wp2_with fail
          (with_reducible refine HEQ.out.mono ?_)
          rintro e w6 ⟨rfl, b6⟩
          have B6 := B3.trans ((B5.trans (b6.mono B5.size)).mono B3.size)
          clear HEQ b6
          go_wp2
          go_ret
          exact ⟨rfl, B6⟩

end Go.Proofs.Ytgkgdnocleajcaa.WFnLinesFirst
