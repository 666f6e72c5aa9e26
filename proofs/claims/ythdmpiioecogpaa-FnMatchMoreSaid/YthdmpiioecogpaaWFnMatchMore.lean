/-
  The walk of the law FnMatchMore.
-/
import Derived.Test.YthdmpiioecogpaaLinesCommon
import Derived.Test.YthdmpiioecogpaaDrawMatch
import Derived.Test.YthdmpiioecogpaaMatchLines
namespace Go.Proofs.Ythdmpiioecogpaa.WFnMatchMore
open Go.RowKit Go.Proofs.Ythdmpiioecogpaa.Spin Go.Proofs.Ythdmpiioecogpaa.Row Go.Proofs.Ythdmpiioecogpaa.Plain Go.Proofs.Ythdmpiioecogpaa.Later Go.Proofs.Ythdmpiioecogpaa.Node Go.Proofs.Ythdmpiioecogpaa.Line Go.Proofs.Ythdmpiioecogpaa.LinesFn Go.Proofs.Ythdmpiioecogpaa.LinesP Go.Proofs.Ythdmpiioecogpaa.LinesS Go.Proofs.Ythdmpiioecogpaa.RowsLine Go.Proofs.Ythdmpiioecogpaa.Rd Go.Proofs.Ythdmpiioecogpaa.DrawScheme Go.Proofs.Ythdmpiioecogpaa.DrawMatch Go.Proofs.Ythdmpiioecogpaa.Nearest Go.Proofs.Ythdmpiioecogpaa.MatchBest Go.Proofs.Ythdmpiioecogpaa.MatchLines Go.Proofs.Ythdmpiioecogpaa.SchemeLaws Go.Proofs.Ythdmpiioecogpaa.LinesCommon
set_option linter.unusedVariables false
set_option linter.unusedSimpArgs false

theorem match_more (l : List Ln) (x t : Int) : (matching l x t).length ≤ (matching l x (t + 1)).length := by
  unfold matching
  induction l with
  | nil => simp
  | cons y l ih =>
    rw [List.filter_cons, List.filter_cons]
    by_cases h1 : absD (y.n - x) ≤ t
    · have h2 : absD (y.n - x) ≤ t + 1 := by omega
      simp [h1, h2]; exact ih
    · by_cases h2 : absD (y.n - x) ≤ t + 1
      · simp [h1, h2]; omega
      · simp [h1, h2]; exact ih

set_option maxRecDepth 100000 in
set_option maxHeartbeats 2000000 in
theorem fnMatchMore (a : Option Addr) (n c : Nat) (zs : List Int) (w0 : World) (h : IsRow .u8 w0 a n c zs) :
    Calls Try.prog 11 #[.slice a n c] w0 (Yes w0) := by
  have HO := Lib.hid (drawMatchLines a n c zs w0 h)
  clear h
  by_cases hn : 1048576 < n
  · go_enter Try.func11, Try.ntmps11
    go_wp2_with fail
    go_ret
    exact ⟨rfl, Below.refl _ _⟩
  · have hnI : (n : Int) ≤ 1048576 := by omega
    skip
    go_enter Try.func11, Try.ntmps11
    go_wp2_with fail
    refine HO.out.mono ?_
    rintro e w ⟨ns, v, x, t, hl, rfl, O, B0⟩
    clear HO hn
    go_wp2_with fail
    (with_reducible refine (iMatchLines ns _ x t _ (Sees.of_own O)).mono ?_)
    rintro e w1 ⟨v1, rfl, O1, b1⟩
    have B1 := B0.trans (b1.mono B0.size)
    replace O := own_below O b1 (Nat.le_refl _)
    have hz1 := b1.size
    clear b1 B0
    go_wp2_with fail
    (with_reducible refine (sMatchLines ns _ x t _ (Sees.of_own O)).mono ?_)
    rintro e w2 ⟨v2, rfl, O2, b2⟩
    have B2 := B1.trans (b2.mono B1.size)
    replace O := own_below O b2 (Nat.le_refl _)
    replace O1 := own_below O1 b2 (Nat.le_refl _)
    have hz2 := b2.size
    clear b2 B1
    obtain ⟨N, hN⟩ : ∃ N, N = (matchOf ns x t).length := ⟨_, rfl⟩
    have HNL := Lib.hid hN
    have hN144 : N ≤ 144 := by rw [hN]; exact match_len ns x t
    have HS1 := Lib.hid (fun W (h : Below w2.heap.size w2 W) => Sees.of_own (own_below O1 h (Nat.le_refl _)))
    have HS2 := Lib.hid (fun W (h : Below w2.heap.size w2 W) => Sees.of_own (own_below O2 h (Nat.le_refl _)))
    rw [← hN] at O1
    clear hN
    obtain ⟨a1, c1, e1⟩ := slice_form O1
    subst e1
    have HEQ := Lib.hid (fun W (h : Below w2.heap.size w2 W) => sameLines (matchOf ns x t) _ _ W (HS1.out W h) (HS2.out W h))
    go_wp2_with fail
    refine (HEQ.out _ (Below.refl _ _)).mono ?_
    rintro e w3 ⟨rfl, b3⟩
    have B3 := B2.trans (b3.mono B2.size)
    have O3 := own_below O b3 (Nat.le_refl _)
    have O13 := own_below O1 b3 (Nat.le_refl _)
    have hz3 := b3.size
    by_cases hz : N = 0
    · have hz' : ((N : Int) == 0) = true := by rw [beq_iff_eq]; omega
      have HEQ3 := Lib.hid (HEQ.out w3 b3)
      clear hz
      go_wp2_with fail
      refine HEQ3.out.mono ?_
      rintro e w4 ⟨rfl, b4⟩
      go_wp2
      go_ret
      exact ⟨rfl, B3.trans (b4.mono B3.size)⟩
    · have hz' : ((N : Int) == 0) = false := by rw [beq_eq_false_iff_ne]; omega
      have hpos : 0 < N := by omega
      have hsn : seenOk x t = true := by
        cases h : seenOk x t
        · have h1 := HNL.out; rw [matchOf_no h] at h1; simp at h1; omega
        · rfl
      obtain ⟨⟨hx0, hx1⟩, ht0, ht1⟩ := seenOk_true.1 hsn
      have HMO := Lib.hid (matchOf_yes (ns := ns) hsn)
      clear hz HEQ HS1 HS2 O O1 O2 b3 hsn
      by_cases ht : t = 1000
      · have ht' : (t == 1000) = true := by simpa using ht
        clear ht
        go_wp2
        go_ret
        exact ⟨rfl, B3⟩
      · have ht' : (t == 1000) = false := by simpa using ht
        clear ht
        have hne : t ≠ 1000 := by simpa using ht'
        have ht2 : t + 1 ≤ 1000 := by omega
        have hsn2 : seenOk x (t + 1) = true := seenOk_true.2 ⟨⟨hx0, hx1⟩, by omega, ht2⟩
        clear hne
        have hge : N ≤ (matchOf ns x (t + 1)).length := by rw [HNL.out, HMO.out, matchOf_yes hsn2]; exact match_more _ _ _
        clear hsn2
        go_wp2_with fail
        (with_reducible refine (iMatchLines ns _ x (t + 1) _ (Sees.of_own O3)).mono ?_)
        rintro e w4 ⟨v4, rfl, O4, b4⟩
        have B4 := B3.trans (b4.mono B3.size)
        obtain ⟨a4, c4, e4⟩ := slice_form O4
        subst e4
        have hm4 := match_len ns x (t + 1)
        generalize (matchOf ns x (t + 1)).length = M at *
        clear O4 b4
        have hgi : (N : Int) ≤ (M : Int) := by omega
        go_wp2
        go_ret
        exact ⟨ret_bool (by simp <;> omega), B4⟩

end Go.Proofs.Ythdmpiioecogpaa.WFnMatchMore
