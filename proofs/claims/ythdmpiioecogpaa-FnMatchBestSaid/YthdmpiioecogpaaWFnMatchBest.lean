/-
  The walk of the law FnMatchBest.
-/
import Derived.Test.YthdmpiioecogpaaLinesCommon
import Derived.Test.YthdmpiioecogpaaDrawMatch
import Derived.Test.YthdmpiioecogpaaMatchBest
namespace Go.Proofs.Ythdmpiioecogpaa.WFnMatchBest
open Go.RowKit Go.Proofs.Ythdmpiioecogpaa.Spin Go.Proofs.Ythdmpiioecogpaa.Row Go.Proofs.Ythdmpiioecogpaa.Plain Go.Proofs.Ythdmpiioecogpaa.Later Go.Proofs.Ythdmpiioecogpaa.Node Go.Proofs.Ythdmpiioecogpaa.Line Go.Proofs.Ythdmpiioecogpaa.LinesFn Go.Proofs.Ythdmpiioecogpaa.LinesP Go.Proofs.Ythdmpiioecogpaa.LinesS Go.Proofs.Ythdmpiioecogpaa.RowsLine Go.Proofs.Ythdmpiioecogpaa.Rd Go.Proofs.Ythdmpiioecogpaa.DrawScheme Go.Proofs.Ythdmpiioecogpaa.DrawMatch Go.Proofs.Ythdmpiioecogpaa.Nearest Go.Proofs.Ythdmpiioecogpaa.MatchBest Go.Proofs.Ythdmpiioecogpaa.SchemeLaws Go.Proofs.Ythdmpiioecogpaa.LinesCommon
set_option linter.unusedVariables false
set_option linter.unusedSimpArgs false

theorem best_parts {ns : List Nd} {x t : Int} (h : ¬ bestOf ns x t < 0) : ((0 ≤ x ∧ x ≤ 200000) ∧ 0 ≤ t ∧ t ≤ 1000) ∧ ∃ m : Nat, bestOf ns x t = m ∧ m < (linesOf ns).length ∧ off (linesOf ns) x m ≤ t ∧ (∀ i, i < (linesOf ns).length → off (linesOf ns) x m ≤ off (linesOf ns) x i) ∧ ∀ i, i < m → off (linesOf ns) x m < off (linesOf ns) x i := by
  unfold bestOf at h ⊢
  split at h
  · next g =>
    rw [if_pos g]
    refine ⟨seenOk_true.1 g.2, ?_⟩
    rcases nearest_isBest (lines_asc ns) x t with ⟨h1, _⟩ | ⟨m, h1, h2, h3, h4, h5⟩
    · omega
    · exact ⟨m, h1, h2, h3, h4, h5⟩
  · omega

set_option maxRecDepth 100000 in
set_option maxHeartbeats 2000000 in
theorem fnMatchBest (a : Option Addr) (n c : Nat) (zs : List Int) (w0 : World) (h : IsRow .u8 w0 a n c zs) :
    Calls Try.prog 12 #[.slice a n c] w0 (Yes w0) := by
  have HO := Lib.hid (drawMatchBest a n c zs w0 h)
  clear h
  by_cases hn : 1048576 < n
  · go_enter Try.func12, Try.ntmps12
    go_wp2_with fail
    go_ret
    exact ⟨rfl, Below.refl _ _⟩
  · have hnI : (n : Int) ≤ 1048576 := by omega
    skip
    go_enter Try.func12, Try.ntmps12
    go_wp2_with fail
    refine HO.out.mono ?_
    rintro e w ⟨ns, v, x, t, hl, rfl, O, B0⟩
    clear HO hn
    go_wp2_with fail
    (with_reducible refine (iMatchBest ns _ x t _ (Sees.of_own O)).mono ?_)
    rintro e w1 ⟨rfl, b1⟩
    have B1 := B0.trans (b1.mono B0.size)
    replace O := own_below O b1 (Nat.le_refl _)
    have hz1 := b1.size
    clear b1 B0
    go_wp2_with fail
    (with_reducible refine (sMatchBest ns _ x t _ (Sees.of_own O)).mono ?_)
    rintro e w2 ⟨rfl, b2⟩
    have B2 := B1.trans (b2.mono B1.size)
    replace O := own_below O b2 (Nat.le_refl _)
    have hz2 := b2.size
    clear b2 B1
    by_cases hneg : bestOf ns x t < 0
    · generalize bestOf ns x t = r at *
      go_wp2_with fail
      go_ret
      exact ⟨ret_bool (by simp), B2⟩
    · obtain ⟨⟨⟨hx0, hx1⟩, ht0, ht1⟩, m, hm, hml, hmt, hmin, hfirst⟩ := best_parts hneg
      rw [hm]
      clear hneg hm
      have hm0 : ¬ (m : Int) < 0 := by omega
      go_wp2_with fail
      (with_reducible refine (iSchemeLines ns _ _ (Sees.of_own O)).mono ?_)
      rintro e w3 ⟨v3, rfl, O3, b3⟩
      have B3 := B2.trans (b3.mono B2.size)
      have hz3 := b3.size
      clear b3 B2
      have hbd := line_bd ns
      have hl144 := linesOf_len ns
      generalize linesOf ns = l at *
      have HBD := Lib.hid hbd
      have HMIN := Lib.hid hmin
      have HFST := Lib.hid hfirst
      obtain ⟨N, hN⟩ : ∃ N, N = l.length := ⟨_, rfl⟩
      have HN := Lib.hid hN
      rw [← hN] at O3 hl144 hml
      obtain ⟨a3, c3, e3⟩ := slice_form O3
      subst e3
      obtain ⟨g, cc, e2, hg0, hg1, hgc, hgm, hcell⟩ := own_form O3 (by omega)
      cases e2
      have HC := Lib.hid (fun k (hk : k < N) => show w3.cell? ⟨g, k * 3 + 2, none⟩ = some (.int .i64 (lth l k).n) by
        have hk' : k < l.length := by have := HN.out; omega
        have h := (line_cells (w := w3) (xs := l) (b := g) (o := 0) (fun j hj => hcell j (by have := HN.out; omega)) k hk').2.2
        rw [Nat.zero_add] at h
        rw [lth_eq hk']; exact h)
      have y3 := HC.out m hml
      obtain ⟨yc0, yc1⟩ := HBD.out m (by have := HN.out; omega)
      have hm1 : (m : Int) < (N : Int) := by omega
      have HOM := Lib.hid (show off l x m = absD ((lth l m).n - x) from rfl)
      unfold maxLen at hgm
      clear hbd hmin hfirst hN O3 hcell
      rw [HOM.out] at hmt
      generalize hz : (lth l m).n = z at *
      clear hz
      have habs : max (z - x) (0 - (z - x)) = absD (z - x) := by unfold absD; split <;> omega
      go_wp2
      go_loopw [10] (fun i wr => ∃ k : Nat, k ≤ N ∧ i = .int .i64 k ∧ wr = w3) (fun i _ => N - (intOf i).toNat)
      case atStart => exact ⟨0, by omega, rfl, rfl⟩
      case round =>
        obtain ⟨k, hk, rfl, rfl⟩ := hrel
        by_cases hlt : k < N
        · have u3 := HC.out k hlt
          obtain ⟨yb0, yb1⟩ := HBD.out k (by have := HN.out; omega)
          have q1 := HMIN.out k (by have := HN.out; omega)
          have q2 := fun h => HFST.out k h
          have HOK := Lib.hid (show off l x k = absD ((lth l k).n - x) from rfl)
          rw [HOM.out, HOK.out] at q1 q2
          generalize (lth l k).n = y at *
          have habs2 : max (y - x) (0 - (y - x)) = absD (y - x) := by unfold absD; split <;> omega
          by_cases hkm : k < m
          · have q3 := q2 hkm
            clear q2
            go_wp2
            all_goals first
              | (go_roundw
                 case rel => exact ⟨k + 1, by omega, by go_num, trivial⟩
                 case measure => simp [intOf]; omega)
              | (exfalso; omega)
          · clear q2
            go_wp2
            all_goals first
              | (go_roundw
                 case rel => exact ⟨k + 1, by omega, by go_num, trivial⟩
                 case measure => simp [intOf]; omega)
              | (exfalso; omega)
        · obtain rfl : k = N := by omega
          go_wp2
          all_goals go_ret
          all_goals exact ⟨ret_bool (by simp only [decide_eq_true_eq]; omega), B3⟩

end Go.Proofs.Ythdmpiioecogpaa.WFnMatchBest
