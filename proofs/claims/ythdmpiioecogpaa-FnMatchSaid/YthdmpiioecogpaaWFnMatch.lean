/-
  The walk of the law FnMatch.
-/
import Derived.Test.YthdmpiioecogpaaLinesCommon
import Derived.Test.YthdmpiioecogpaaDrawMatch
import Derived.Test.YthdmpiioecogpaaMatchLines
namespace Go.Proofs.Ythdmpiioecogpaa.WFnMatch
open Go.RowKit Go.Proofs.Ythdmpiioecogpaa.Spin Go.Proofs.Ythdmpiioecogpaa.Row Go.Proofs.Ythdmpiioecogpaa.Plain Go.Proofs.Ythdmpiioecogpaa.Later Go.Proofs.Ythdmpiioecogpaa.Node Go.Proofs.Ythdmpiioecogpaa.Line Go.Proofs.Ythdmpiioecogpaa.LinesFn Go.Proofs.Ythdmpiioecogpaa.LinesP Go.Proofs.Ythdmpiioecogpaa.LinesS Go.Proofs.Ythdmpiioecogpaa.RowsLine Go.Proofs.Ythdmpiioecogpaa.Rd Go.Proofs.Ythdmpiioecogpaa.DrawScheme Go.Proofs.Ythdmpiioecogpaa.DrawMatch Go.Proofs.Ythdmpiioecogpaa.Nearest Go.Proofs.Ythdmpiioecogpaa.MatchBest Go.Proofs.Ythdmpiioecogpaa.MatchLines Go.Proofs.Ythdmpiioecogpaa.SchemeLaws Go.Proofs.Ythdmpiioecogpaa.LinesCommon
set_option linter.unusedVariables false
set_option linter.unusedSimpArgs false

theorem match_at {l : List Ln} {x t : Int} {k : Nat} (hk : k < l.length) (h : absD (l[k].n - x) ≤ t) : ∃ hm : (mpart l x t k).length < (matching l x t).length, (matching l x t)[(mpart l x t k).length] = l[k] := by
  have e : matching l x t = mpart l x t k ++ ([l[k]] ++ (l.drop (k + 1)).filter fun y => decide (absD (y.n - x) ≤ t)) := by
    rw [← List.append_assoc, ← mpart_yes hk h]
    unfold matching mpart
    rw [← List.filter_append, List.take_append_drop]
  have hm : (mpart l x t k).length < (matching l x t).length := by rw [e]; simp
  refine ⟨hm, ?_⟩
  have h2 : (matching l x t)[(mpart l x t k).length]? = some l[k] := by rw [e]; simp
  rw [List.getElem?_eq_getElem hm] at h2
  exact Option.some.inj h2

set_option maxRecDepth 100000 in
set_option maxHeartbeats 2000000 in
theorem fnMatch (a : Option Addr) (n c : Nat) (zs : List Int) (w0 : World) (h : IsRow .u8 w0 a n c zs) :
    Calls Try.prog 10 #[.slice a n c] w0 (Yes w0) := by
  have HO := Lib.hid (drawMatchLines a n c zs w0 h)
  clear h
  by_cases hn : 1048576 < n
  · go_enter Try.func10, Try.ntmps10
    go_wp2_with fail
    go_ret
    exact ⟨rfl, Below.refl _ _⟩
  · have hnI : (n : Int) ≤ 1048576 := by omega
    skip
    go_enter Try.func10, Try.ntmps10
    go_wp2_with fail
    refine HO.out.mono ?_
    rintro e w ⟨ns, v, x, t, hl, rfl, O, B0⟩
    clear HO hn
    go_wp2_with fail
    (with_reducible refine (iMatchLines ns _ x t _ (Sees.of_own O)).mono ?_)
    rintro e w1 ⟨v1, rfl, O1, b1⟩
    have B1 := B0.trans (b1.mono B0.size)
    replace O := own_below O b1 (Nat.le_refl _)
    have hz1 := b1.size
    clear b1 B0
    go_wp2_with fail
    (with_reducible refine (sMatchLines ns _ x t _ (Sees.of_own O)).mono ?_)
    rintro e w2 ⟨v2, rfl, O2, b2⟩
    have B2 := B1.trans (b2.mono B1.size)
    replace O := own_below O b2 (Nat.le_refl _)
    replace O1 := own_below O1 b2 (Nat.le_refl _)
    have hz2 := b2.size
    clear b2 B1
    obtain ⟨N, hN⟩ : ∃ N, N = (matchOf ns x t).length := ⟨_, rfl⟩
    have HNL := Lib.hid hN
    have hN144 : N ≤ 144 := by rw [hN]; exact match_len ns x t
    have HS1 := Lib.hid (fun W (h : Below w2.heap.size w2 W) => Sees.of_own (own_below O1 h (Nat.le_refl _)))
    have HS2 := Lib.hid (fun W (h : Below w2.heap.size w2 W) => Sees.of_own (own_below O2 h (Nat.le_refl _)))
    rw [← hN] at O1
    clear hN
    obtain ⟨a1, c1, e1⟩ := slice_form O1
    subst e1
    have HEQ := Lib.hid (fun W (h : Below w2.heap.size w2 W) => sameLines (matchOf ns x t) _ _ W (HS1.out W h) (HS2.out W h))
    go_wp2_with fail
    refine (HEQ.out _ (Below.refl _ _)).mono ?_
    rintro e w3 ⟨rfl, b3⟩
    have B3 := B2.trans (b3.mono B2.size)
    have O3 := own_below O b3 (Nat.le_refl _)
    have O13 := own_below O1 b3 (Nat.le_refl _)
    have hz3 := b3.size
    by_cases hz : N = 0
    · have hz' : ((N : Int) == 0) = true := by rw [beq_iff_eq]; omega
      have HEQ3 := Lib.hid (HEQ.out w3 b3)
      clear hz
      go_wp2_with fail
      refine HEQ3.out.mono ?_
      rintro e w4 ⟨rfl, b4⟩
      go_wp2
      go_ret
      exact ⟨rfl, B3.trans (b4.mono B3.size)⟩
    · have hz' : ((N : Int) == 0) = false := by rw [beq_eq_false_iff_ne]; omega
      have hpos : 0 < N := by omega
      have hsn : seenOk x t = true := by
        cases h : seenOk x t
        · have h1 := HNL.out; rw [matchOf_no h] at h1; simp at h1; omega
        · rfl
      obtain ⟨⟨hx0, hx1⟩, ht0, ht1⟩ := seenOk_true.1 hsn
      have HMO := Lib.hid (matchOf_yes (ns := ns) hsn)
      clear hz HEQ HS1 HS2 O O1 O2 b3 hsn
      go_wp2_with fail
      (with_reducible refine (iSchemeLines ns _ _ (Sees.of_own O3)).mono ?_)
      rintro e w4 ⟨v4, rfl, O4, b4⟩
      have B4 := B3.trans (b4.mono B3.size)
      replace O13 := own_below O13 b4 (Nat.le_refl _)
      have hz4 := b4.size
      clear b4 B3
      have hL144 := linesOf_len ns
      have hbd := line_bd ns
      have hLpos : 0 < (linesOf ns).length := by
        have h1 := HNL.out
        rw [HMO.out] at h1
        have h2 : (matching (linesOf ns) x t).length ≤ (linesOf ns).length := List.length_filter_le _ _
        omega
      rw [HMO.out] at HNL O13
      generalize linesOf ns = l at *
      have HBD := Lib.hid hbd
      obtain ⟨L, hL⟩ : ∃ L, L = l.length := ⟨_, rfl⟩
      have HL := Lib.hid hL
      rw [← hL] at O4 hL144 hLpos
      obtain ⟨a4, c4, e4⟩ := slice_form O4
      subst e4
      obtain ⟨g, cs, e2, hg0, hg1, hgc, hgm, hcell⟩ := own_form O4 hLpos
      cases e2
      obtain ⟨g1, cs1, e2, hg10, hg11, hgc1, hgm1, hcell1⟩ := own_form O13 hpos
      cases e2
      have HC := Lib.hid (fun k (hk : k < l.length) => line_cells (w := w4) (xs := l) (b := g) (o := 0) (fun j hj => hcell j (by have := HL.out; omega)) k hk)
      have HC1 := Lib.hid (fun k (hk : k < (matching l x t).length) => line_cells (w := w4) (xs := matching l x t) (b := g1) (o := 0) (fun j hj => hcell1 j (by have := HNL.out; omega)) k hk)
      unfold maxLen at hgm hgm1
      clear hbd hL hcell hcell1 O4 O13 O3 HMO
      go_wp2
      go_loopw [8, 10] (fun u i wr => ∃ k : Nat, k ≤ L ∧ i = .int .i64 k ∧ u = .int .i64 (mpart l x t k).length ∧ Below w4.heap.size w4 wr) (fun _ i _ => L - (intOf i).toNat)
      case atStart => exact ⟨0, by omega, rfl, rfl, Below.refl _ _⟩
      case round =>
        obtain ⟨k, hk, rfl, rfl, hB⟩ := hrel
        have hsz := hB.size
        by_cases hlt : k < L
        · have hkl : k < l.length := by have := HL.out; omega
          obtain ⟨u0, u1, u2⟩ := HC.out k hkl
          simp only [Nat.zero_add] at u0 u1 u2
          obtain ⟨yb0, yb1⟩ := HBD.out k hkl
          rw [lth_eq hkl] at yb0 yb1
          have v2 := (hB.cell (p := ⟨g, k * 3 + 2, none⟩) hg1).trans u2
          have hpl := mpart_len l x t k
          by_cases hy : absD (l[k].n - x) ≤ t
          · obtain ⟨hat, hyat⟩ := match_at hkl hy
            obtain ⟨y0, y1, y2⟩ := HC1.out _ hat
            rw [hyat] at y0 y1 y2
            simp only [Nat.zero_add] at y0 y1 y2
            have HP := Lib.hid (show (mpart l x t (k+1)).length = (mpart l x t k).length + 1 by rw [mpart_yes hkl hy]; simp)
            have hplN : (mpart l x t k).length < N := by have := HNL.out; omega
            have habs : max (l[k].n - x) (0 - (l[k].n - x)) = absD (l[k].n - x) := by unfold absD; split <;> omega
            clear hat hyat
            generalize l[k] = y at *
            obtain ⟨yu, yl, yn⟩ := y
            simp only at u0 u1 u2 v2 y0 y1 y2 hy habs yb0 yb1
            generalize (mpart l x t k).length = pl at *
            have hq0 : ¬ (N : Int) ≤ (pl : Int) := by omega
            have hq1 : (pl : Int) < (N : Int) := by omega
            have hq2 : (0 : Int) ≤ (pl : Int) := by omega
            have hq3 : (k : Int) < (L : Int) := by omega
            have hq4 : (0 : Int) ≤ (k : Int) := by omega
            have f0 : ∀ p : Later wr.heap.size wr, p.W.cell? ⟨g, k * 3, none⟩ = some (.int .i64 yu) := Later.cell ((hB.cell (p := ⟨g, k * 3, none⟩) hg1).trans u0) (by omega)
            have f1 : ∀ p : Later wr.heap.size wr, p.W.cell? ⟨g, k * 3 + 1, none⟩ = some (.int .i64 yl) := Later.cell ((hB.cell (p := ⟨g, k * 3 + 1, none⟩) hg1).trans u1) (by omega)
            have f2 : ∀ p : Later wr.heap.size wr, p.W.cell? ⟨g, k * 3 + 2, none⟩ = some (.int .i64 yn) := Later.cell v2 (by omega)
            have f3 : ∀ p : Later wr.heap.size wr, p.W.cell? ⟨g1, pl * 3, none⟩ = some (.int .i64 yu) := Later.cell ((hB.cell (p := ⟨g1, pl * 3, none⟩) hg11).trans y0) (by omega)
            have f4 : ∀ p : Later wr.heap.size wr, p.W.cell? ⟨g1, pl * 3 + 1, none⟩ = some (.int .i64 yl) := Later.cell ((hB.cell (p := ⟨g1, pl * 3 + 1, none⟩) hg11).trans y1) (by omega)
            have f5 : ∀ p : Later wr.heap.size wr, p.W.cell? ⟨g1, pl * 3 + 2, none⟩ = some (.int .i64 yn) := Later.cell ((hB.cell (p := ⟨g1, pl * 3 + 2, none⟩) hg11).trans y2) (by omega)
            rcases Int.lt_or_le (yn - x) 0 with hsg | hsg
            · skip
              go_wp2_with fail
              refine Later.wp_region_later (wr.heap.size) (by kernel_rfl) (by kernel_rfl) ?_
              repeat (first | go_big_quiet_step ((fail)) | quiet_step ((fail)))
              refine wpQuiet_nil ?_
              rintro w5 ⟨q5, hq5⟩
              have b5 := q5.h
              rw [← hq5] at b5
              clear hq5 q5
              have B5 := hB.trans (b5.mono hsz)
              clear f0 f1 f2 f3 f4 f5
              go_wp2
              go_roundw
              case rel => exact ⟨k + 1, by omega, by go_num, by rw [HP.out]; go_num, B5⟩
              case measure => simp [intOf]; omega
            · skip
              go_wp2_with fail
              refine Later.wp_region_later (wr.heap.size) (by kernel_rfl) (by kernel_rfl) ?_
              repeat (first | go_big_quiet_step ((fail)) | quiet_step ((fail)))
              refine wpQuiet_nil ?_
              rintro w5 ⟨q5, hq5⟩
              have b5 := q5.h
              rw [← hq5] at b5
              clear hq5 q5
              have B5 := hB.trans (b5.mono hsz)
              clear f0 f1 f2 f3 f4 f5
              go_wp2
              go_roundw
              case rel => exact ⟨k + 1, by omega, by go_num, by rw [HP.out]; go_num, B5⟩
              case measure => simp [intOf]; omega
          · have HP := Lib.hid (show (mpart l x t (k+1)).length = (mpart l x t k).length by rw [mpart_no hkl hy])
            have habs : max (l[k].n - x) (0 - (l[k].n - x)) = absD (l[k].n - x) := by unfold absD; split <;> omega
            generalize l[k] = y at *
            obtain ⟨yu, yl, yn⟩ := y
            simp only at u0 u1 u2 v2 hy habs yb0 yb1
            generalize (mpart l x t k).length = pl at *
            go_wp2
            all_goals first
              | (go_roundw
                 case rel => exact ⟨k + 1, by omega, by go_num, by rw [HP.out], hB⟩
                 case measure => simp [intOf]; omega)
              | (exfalso; omega)
        · obtain rfl : k = L := by omega
          have HP := Lib.hid (show (mpart l x t k).length = N by rw [mpart_all l x t k (by have := HL.out; omega)]; exact HNL.out.symm)
          rw [HP.out]
          go_wp2
          go_ret
          exact ⟨ret_bool (by simp), B4.trans (hB.mono B4.size)⟩

end Go.Proofs.Ythdmpiioecogpaa.WFnMatch
