/-
  Contracts of MatchBest, the program's and the reference's.
-/
import Derived.Test.YthdmpiioecogpaaNearest
import Derived.Test.YthdmpiioecogpaaLinesP
import Derived.Test.YthdmpiioecogpaaLinesS
namespace Go.Proofs.Ythdmpiioecogpaa.MatchBest
open Go.RowKit Go.Proofs.Ythdmpiioecogpaa.Spin Go.Proofs.Ythdmpiioecogpaa.Row Go.Proofs.Ythdmpiioecogpaa.Plain Go.Proofs.Ythdmpiioecogpaa.Later Go.Proofs.Ythdmpiioecogpaa.Node Go.Proofs.Ythdmpiioecogpaa.Line Go.Proofs.Ythdmpiioecogpaa.LinesFn Go.Proofs.Ythdmpiioecogpaa.LinesS Go.Proofs.Ythdmpiioecogpaa.LinesP Go.Proofs.Ythdmpiioecogpaa.Nearest
set_option linter.unusedVariables false
set_option linter.unusedSimpArgs false

def bestOf (ns : List Nd) (x t : Int) : Int := if schemeOk ns = true ∧ seenOk x t = true then nearest (linesOf ns) x t else -1
theorem bestOf_yes {ns : List Nd} {x t : Int} (h1 : schemeOk ns = true) (h2 : seenOk x t = true) : bestOf ns x t = nearest (linesOf ns) x t := by simp [bestOf, h1, h2]
theorem bestOf_no1 {ns : List Nd} {x t : Int} (h1 : schemeOk ns = false) : bestOf ns x t = -1 := by simp [bestOf, h1]
theorem bestOf_no2 {ns : List Nd} {x t : Int} (h2 : seenOk x t = false) : bestOf ns x t = -1 := by simp [bestOf, h2]
theorem line_bd (ns : List Nd) : ∀ i, i < (linesOf ns).length → 0 ≤ (lth (linesOf ns) i).n ∧ (lth (linesOf ns) i).n ≤ 200000 := by
  intro i hi
  have := line_parts (lth_mem hi)
  omega

theorem bestTo_far {l : List Ln} {x t : Int} {k : Nat} (h : ¬ off l x k ≤ t) : bestTo l x t (k + 1) = bestTo l x t k := by rw [bestTo, if_neg (fun g => h g.1)]
theorem bestTo_first {l : List Ln} {x t : Int} {k : Nat} (h : off l x k ≤ t) (hb : bestTo l x t k < 0) : bestTo l x t (k + 1) = k := by rw [bestTo, if_pos ⟨h, .inl hb⟩]
theorem bestTo_less {l : List Ln} {x t : Int} {k m : Nat} (h : off l x k ≤ t) (hb : bestTo l x t k = m) (hl : off l x k < off l x m) : bestTo l x t (k + 1) = k := by rw [bestTo, hb, Int.toNat_natCast, if_pos ⟨h, .inr hl⟩]
theorem bestTo_keep {l : List Ln} {x t : Int} {k m : Nat} (hb : bestTo l x t k = m) (hl : ¬ off l x k < off l x m) : bestTo l x t (k + 1) = m := by rw [bestTo, hb, Int.toNat_natCast, if_neg (by rintro ⟨_, h | h⟩; · omega
                                                                                                                                                                                                  · exact hl h)]

theorem valid_is {ns : List Nd} {r : Bool} {v : Value} {w : World} (h : schemeOk ns = r) (hs : Sees w 3 v ns.length (ns.flatMap encN)) : Calls Try.prog 44 #[v] w (Gives (.bool r) w) := h ▸ iSchemeValid ns v w hs
theorem svalid_is {ns : List Nd} {r : Bool} {v : Value} {w : World} (h : schemeOk ns = r) (hs : Sees w 3 v ns.length (ns.flatMap encN)) : Calls Try.prog 48 #[v] w (Gives (.bool r) w) := h ▸ sSchemeValid ns v w hs

set_option maxRecDepth 100000 in
set_option maxHeartbeats 1000000 in
theorem iMatchBest (ns : List Nd) (v : Value) (x t : Int) (w : World) (hs : Sees w 3 v ns.length (ns.flatMap encN)) :
    Calls Try.prog 34 #[v, .int .i64 x, .int .i64 t] w (Gives (.int .i64 (bestOf ns x t)) w) := by
  have B0 := Below.refl w.heap.size w
  have HSW := Lib.hid (fun W (h : Below w.heap.size w W) => hs.below h (Nat.le_refl _))
  clear hs
  cases hok : schemeOk ns
  · have HR := Lib.hid (bestOf_no1 (x := x) (t := t) hok)
    go_enter Try.func34, Try.ntmps34
    go_wp2_with fail
    (with_reducible refine (valid_is hok (HSW.out _ B0)).mono ?_)
    rintro e w1 ⟨rfl, b1⟩
    have B1 := B0.trans (b1.mono B0.size)
    have hz1 := b1.size
    clear b1 B0
    go_wp2
    go_ret
    exact ⟨ret_int HR.out.symm, B1⟩
  · cases hsn : seenOk x t
    · have HR := Lib.hid (bestOf_no2 (ns := ns) hsn)
      go_enter Try.func34, Try.ntmps34
      go_wp2_with fail
      (with_reducible refine (valid_is hok (HSW.out _ B0)).mono ?_)
      rintro e w1 ⟨rfl, b1⟩
      have B1 := B0.trans (b1.mono B0.size)
      have hz1 := b1.size
      clear b1 B0
      go_wp2_with fail
      (with_reducible refine (seen_is _ hsn).mono ?_)
      rintro e w' ⟨rfl, rfl⟩
      go_wp2
      go_ret
      exact ⟨ret_int HR.out.symm, B1⟩
    · have HR := Lib.hid (bestOf_yes hok hsn)
      have hx := seenOk_true.1 hsn
      have HX := Lib.hid hx
      go_enter Try.func34, Try.ntmps34
      go_wp2_with fail
      (with_reducible refine (valid_is hok (HSW.out _ B0)).mono ?_)
      rintro e w1 ⟨rfl, b1⟩
      have B1 := B0.trans (b1.mono B0.size)
      have hz1 := b1.size
      clear b1 B0
      go_wp2_with fail
      (with_reducible refine (seen_is _ hsn).mono ?_)
      rintro e w' ⟨rfl, rfl⟩
      go_wp2_with fail
      (with_reducible refine (iSchemeLines ns _ _ (HSW.out _ B1)).mono ?_)
      rintro e w2 ⟨v2, rfl, O2, b2⟩
      have B2 := B1.trans (b2.mono B1.size)
      have hz2 := b2.size
      clear b2 B1
      go_wp2_with fail
      (with_reducible refine (nearestLine (linesOf ns) _ x t _ (Sees.of_own O2) (lines_asc ns) (by have := linesOf_len ns; omega) HX.out.1 HX.out.2 (line_bd ns)).mono ?_)
      rintro e w3 ⟨rfl, b3⟩
      have B3 := B2.trans (b3.mono B2.size)
      have hz3 := b3.size
      clear b3 B2
      go_wp2
      go_ret
      exact ⟨ret_int HR.out.symm, B3⟩

set_option maxRecDepth 100000 in
set_option maxHeartbeats 1000000 in
theorem l33Ok (ns : List Nd) (v : Value) (x t : Int) (w : World) (hs : Sees w 3 v ns.length (ns.flatMap encN)) :
    Calls Try.prog 59 #[v, .int .i64 x, .int .i64 t] w (Gives (.bool (schemeOk ns && seenOk x t)) w) := by
  have B0 := Below.refl w.heap.size w
  cases hok : schemeOk ns
  · go_enter Try.func59, Try.ntmps59
    go_wp2_with fail
    (with_reducible refine (svalid_is hok hs).mono ?_)
    rintro e w1 ⟨rfl, b1⟩
    go_wp2
    go_ret
    exact ⟨rfl, b1⟩
  · by_cases h1 : 0 ≤ x ∧ x ≤ 200000
    · have HR := Lib.hid (show seenOk x t = inB t 0 1000 by simp [seenOk, inB, h1])
      go_enter Try.func59, Try.ntmps59
      go_wp2_with fail
      (with_reducible refine (svalid_is hok hs).mono ?_)
      rintro e w1 ⟨rfl, b1⟩
      go_wp2_with fail
      (with_reducible refine (l6In_yes _ h1).mono ?_)
      rintro e w' ⟨rfl, rfl⟩
      go_wp2_with fail
      (with_reducible refine (l6In _ _ _ _).mono ?_)
      rintro e w' ⟨rfl, rfl⟩
      go_wp2
      go_ret
      exact ⟨ret_bool (by rw [HR.out]; rfl), b1⟩
    · have HR := Lib.hid (show seenOk x t = false by simp [seenOk]; omega)
      go_enter Try.func59, Try.ntmps59
      go_wp2_with fail
      (with_reducible refine (svalid_is hok hs).mono ?_)
      rintro e w1 ⟨rfl, b1⟩
      go_wp2_with fail
      (with_reducible refine (l6In_no _ h1).mono ?_)
      rintro e w' ⟨rfl, rfl⟩
      go_wp2
      go_ret
      exact ⟨ret_bool (by rw [HR.out]; rfl), b1⟩
theorem ok_is {ns : List Nd} {x t : Int} {r : Bool} {v : Value} {w : World} (h : (schemeOk ns && seenOk x t) = r) (hs : Sees w 3 v ns.length (ns.flatMap encN)) : Calls Try.prog 59 #[v, .int .i64 x, .int .i64 t] w (Gives (.bool r) w) := h ▸ l33Ok ns v x t w hs

set_option maxRecDepth 100000 in
set_option maxHeartbeats 2000000 in
theorem sMatchBest (ns : List Nd) (v : Value) (x t : Int) (w : World) (hs : Sees w 3 v ns.length (ns.flatMap encN)) :
    Calls Try.prog 33 #[v, .int .i64 x, .int .i64 t] w (Gives (.int .i64 (bestOf ns x t)) w) := by
  have B0 := Below.refl w.heap.size w
  have HSW := Lib.hid (fun W (h : Below w.heap.size w W) => hs.below h (Nat.le_refl _))
  clear hs
  cases hok : (schemeOk ns && seenOk x t)
  · have HR := Lib.hid (show bestOf ns x t = -1 by
      cases h1 : schemeOk ns
      · exact bestOf_no1 h1
      · rw [h1] at hok; exact bestOf_no2 (by simpa using hok))
    go_enter Try.func33, Try.ntmps33
    go_wp2_with fail
    (with_reducible refine (ok_is hok (HSW.out _ B0)).mono ?_)
    rintro e w1 ⟨rfl, b1⟩
    have B1 := B0.trans (b1.mono B0.size)
    have hz1 := b1.size
    clear b1 B0
    go_wp2
    go_ret
    exact ⟨ret_int HR.out.symm, B1⟩
  · have h12 : schemeOk ns = true ∧ seenOk x t = true := by simpa using hok
    have HR := Lib.hid ((bestOf_yes h12.1 h12.2).trans (nearest_bestTo (lines_asc ns) x t))
    obtain ⟨⟨hx0, hx1⟩, ht0, ht1⟩ := seenOk_true.1 h12.2
    clear h12
    go_enter Try.func33, Try.ntmps33
    go_wp2_with fail
    (with_reducible refine (ok_is hok (HSW.out _ B0)).mono ?_)
    rintro e w1 ⟨rfl, b1⟩
    have B1 := B0.trans (b1.mono B0.size)
    have hz1 := b1.size
    clear b1 B0
    clear hok
    go_wp2_with fail
    (with_reducible refine (sSchemeLines ns _ _ (HSW.out _ B1)).mono ?_)
    rintro e w2 ⟨v2, rfl, O2, b2⟩
    have B2 := B1.trans (b2.mono B1.size)
    have hz2 := b2.size
    clear b2 B1
    have hbd := line_bd ns
    have hl144 := linesOf_len ns
    generalize linesOf ns = l at *
    have HBD := Lib.hid hbd
    obtain ⟨n, hn⟩ : ∃ n, n = l.length := ⟨_, rfl⟩
    have HN := Lib.hid hn
    rw [← hn] at O2 hl144
    have hS := Sees.of_own O2
    clear hbd hn O2
    rcases hS.2 with ⟨rfl, a, c, rfl⟩ | ⟨b, o, c, rfl, hnc, hcm, hb, hcell⟩
    · clear hS
      go_wp2
      go_loopw [8, 9] (fun u i wr => u = .int .i64 (-1) ∧ i = .int .i64 0 ∧ wr = w2) (fun _ _ _ => 0)
      case atStart => exact ⟨rfl, rfl, rfl⟩
      case round =>
        obtain ⟨rfl, rfl, rfl⟩ := hrel
        go_wp2
        go_ret
        exact ⟨ret_int (by rw [HR.out, ← HN.out]; rfl), B2⟩
    · have HC := Lib.hid (fun k (hk : k < l.length) => show w2.cell? ⟨b, o + k * 3 + 2, none⟩ = some (.int .i64 (lth l k).n) by rw [lth_eq hk]; exact (line_cells (w := w2) (xs := l) (b := b) (o := o) (fun j hj => hcell j (by have := HN.out; omega)) k hk).2.2)
      unfold maxLen at hcm
      clear hS hcell
      go_wp2
      go_loopw [8, 9] (fun u i wr => ∃ k : Nat, k ≤ n ∧ i = .int .i64 k ∧ u = .int .i64 (bestTo l x t k) ∧ wr = w2) (fun _ i _ => n - (intOf i).toNat)
      case atStart => exact ⟨0, by omega, rfl, rfl, rfl⟩
      case round =>
        obtain ⟨k, hk, rfl, rfl, rfl⟩ := hrel
        by_cases hlt : k < n
        · have hkl : k < l.length := by have := HN.out; omega
          have u2 := HC.out k hkl
          obtain ⟨yb0, yb1⟩ := HBD.out k hkl
          have HOF := Lib.hid (show off l x k = absI ((lth l k).n - x) from rfl)
          have bb := bestTo_bounds l x t k
          by_cases h1 : absI ((lth l k).n - x) ≤ t
          · by_cases h2 : bestTo l x t k < 0
            · have HS := Lib.hid (bestTo_first (by rw [HOF.out]; exact h1) h2)
              generalize (lth l k).n = y at *
              generalize bestTo l x t k = bt at *
              go_wp2_with fail
              (with_reducible refine (l1Abs _ _ (by omega) (by omega)).mono ?_)
              rintro e w' ⟨rfl, rfl⟩
              go_wp2
              go_roundw
              case rel => exact ⟨k + 1, by omega, by go_num, by rw [HS.out], trivial⟩
              case measure => simp [intOf]; omega
            · obtain ⟨m, hm⟩ : ∃ m : Nat, bestTo l x t k = m := ⟨(bestTo l x t k).toNat, by omega⟩
              have hmk : m < k := by omega
              have HM := Lib.hid hm
              have v2 := HC.out m (by omega)
              obtain ⟨yc0, yc1⟩ := HBD.out m (by omega)
              have HOM := Lib.hid (show off l x m = absI ((lth l m).n - x) from rfl)
              have hm0 : ¬ (m : Int) < 0 := by omega
              have hm1 : (m : Int) < (n : Int) := by omega
              rw [hm]
              clear hm h2 bb
              by_cases h3 : absI ((lth l k).n - x) < absI ((lth l m).n - x)
              · have HS := Lib.hid (bestTo_less (by rw [HOF.out]; exact h1) HM.out (by rw [HOF.out, HOM.out]; exact h3))
                generalize (lth l k).n = y at *
                generalize (lth l m).n = z at *
                go_wp2_with fail
                (with_reducible refine (l1Abs _ _ (by omega) (by omega)).mono ?_)
                rintro e w' ⟨rfl, rfl⟩
                go_wp2_with fail
                (with_reducible refine (l1Abs _ _ (by omega) (by omega)).mono ?_)
                rintro e w' ⟨rfl, rfl⟩
                go_wp2
                go_roundw
                case rel => exact ⟨k + 1, by omega, by go_num, by rw [HS.out], trivial⟩
                case measure => simp [intOf]; omega
              · have HS := Lib.hid (bestTo_keep HM.out (by rw [HOF.out, HOM.out]; exact h3))
                generalize (lth l k).n = y at *
                generalize (lth l m).n = z at *
                go_wp2_with fail
                (with_reducible refine (l1Abs _ _ (by omega) (by omega)).mono ?_)
                rintro e w' ⟨rfl, rfl⟩
                go_wp2_with fail
                (with_reducible refine (l1Abs _ _ (by omega) (by omega)).mono ?_)
                rintro e w' ⟨rfl, rfl⟩
                go_wp2
                go_roundw
                case rel => exact ⟨k + 1, by omega, by go_num, by rw [HS.out], trivial⟩
                case measure => simp [intOf]; omega
          · have HS := Lib.hid (bestTo_far (by rw [HOF.out]; exact h1))
            generalize (lth l k).n = y at *
            generalize bestTo l x t k = bt at *
            go_wp2_with fail
            (with_reducible refine (l1Abs _ _ (by omega) (by omega)).mono ?_)
            rintro e w' ⟨rfl, rfl⟩
            go_wp2
            go_roundw
            case rel => exact ⟨k + 1, by omega, by go_num, by rw [HS.out], trivial⟩
            case measure => simp [intOf]; omega
        · obtain rfl : k = n := by omega
          go_wp2
          go_ret
          exact ⟨ret_int (by rw [HR.out, ← HN.out]), B2⟩

end Go.Proofs.Ythdmpiioecogpaa.MatchBest
