/-
  The walk of the law FnResting.
-/
import Derived.Test.YthdmpiioecogpaaLinesCommon
import Derived.Test.YthdmpiioecogpaaDrawMatch
import Derived.Test.YthdmpiioecogpaaResting
namespace Go.Proofs.Ythdmpiioecogpaa.WFnResting
open Go.RowKit Go.Proofs.Ythdmpiioecogpaa.Spin Go.Proofs.Ythdmpiioecogpaa.Row Go.Proofs.Ythdmpiioecogpaa.Plain Go.Proofs.Ythdmpiioecogpaa.Later Go.Proofs.Ythdmpiioecogpaa.Node Go.Proofs.Ythdmpiioecogpaa.Line Go.Proofs.Ythdmpiioecogpaa.LinesFn Go.Proofs.Ythdmpiioecogpaa.LinesP Go.Proofs.Ythdmpiioecogpaa.LinesS Go.Proofs.Ythdmpiioecogpaa.RowsLine Go.Proofs.Ythdmpiioecogpaa.Rd Go.Proofs.Ythdmpiioecogpaa.DrawScheme Go.Proofs.Ythdmpiioecogpaa.DrawMatch Go.Proofs.Ythdmpiioecogpaa.Decays Go.Proofs.Ythdmpiioecogpaa.Resting Go.Proofs.Ythdmpiioecogpaa.SchemeLaws Go.Proofs.Ythdmpiioecogpaa.LinesCommon
set_option linter.unusedVariables false
set_option linter.unusedSimpArgs false

theorem rest_at {l : List Ln} {k n : Nat} (hk : k < n) (h : up l k = false) : ∃ hm : (restTo l k).length < (restTo l n).length, (restTo l n)[(restTo l k).length] = (k : Int) := by
  obtain ⟨d, rfl⟩ : ∃ d, n = k + 1 + d := ⟨n - (k + 1), by omega⟩
  have e : ∃ r, restTo l (k + 1 + d) = restTo l k ++ ([(k : Int)] ++ r) := by
    clear hk
    induction d with
    | zero => exact ⟨[], by rw [Nat.add_zero, rest_yes h]; simp⟩
    | succ d ih =>
      obtain ⟨r, hr⟩ := ih
      cases hu : up l (k + 1 + d)
      · exact ⟨r ++ [((k + 1 + d : Nat) : Int)], by rw [← Nat.add_assoc, rest_yes hu, hr]; simp⟩
      · exact ⟨r, by rw [← Nat.add_assoc, rest_no hu, hr]⟩
  obtain ⟨r, e⟩ := e
  have hm : (restTo l k).length < (restTo l (k + 1 + d)).length := by rw [e]; simp
  refine ⟨hm, ?_⟩
  have h2 : (restTo l (k + 1 + d))[(restTo l k).length]? = some (k : Int) := by rw [e]; simp
  rw [List.getElem?_eq_getElem hm] at h2
  exact Option.some.inj h2
theorem up_zero (ns : List Nd) : up (linesOf ns) 0 = false := by
  cases h : up (linesOf ns) 0
  · rfl
  · obtain ⟨y, hy, he⟩ := List.any_eq_true.1 h
    have := line_parts hy
    simp at he
    omega

set_option maxRecDepth 100000 in
set_option maxHeartbeats 2000000 in
theorem fnResting (a : Option Addr) (n c : Nat) (zs : List Int) (w0 : World) (h : IsRow .u8 w0 a n c zs) :
    Calls Try.prog 6 #[.slice a n c] w0 (Yes w0) := by
  have HO := Lib.hid (drawSchemeResting a n c zs w0 h)
  clear h
  by_cases hn : 1048576 < n
  · go_enter Try.func6, Try.ntmps6
    go_wp2_with fail
    go_ret
    exact ⟨rfl, Below.refl _ _⟩
  · have hnI : (n : Int) ≤ 1048576 := by omega
    skip
    go_enter Try.func6, Try.ntmps6
    go_wp2_with fail
    refine HO.out.mono ?_
    rintro e w ⟨ns, v, hl, rfl, O, B0⟩
    clear HO hn
    go_wp2_with fail
    (with_reducible refine (iSchemeResting ns _ _ (Sees.of_own O)).mono ?_)
    rintro e w1 ⟨v1, rfl, O1, b1⟩
    have B1 := B0.trans (b1.mono B0.size)
    replace O := own_below O b1 (Nat.le_refl _)
    have hz1 := b1.size
    clear b1 B0
    go_wp2_with fail
    (with_reducible refine (sSchemeResting ns _ _ (Sees.of_own O)).mono ?_)
    rintro e w2 ⟨v2, rfl, O2, b2⟩
    have B2 := B1.trans (b2.mono B1.size)
    replace O := own_below O b2 (Nat.le_refl _)
    replace O1 := own_below O1 b2 (Nat.le_refl _)
    have hz2 := b2.size
    clear b2 B1
    obtain ⟨N, hN⟩ : ∃ N, N = (restingOf ns).length := ⟨_, rfl⟩
    have HNL := Lib.hid hN
    have hN12 : N ≤ 12 := by rw [hN]; exact resting_len ns
    have HS1 := Lib.hid (fun W (h : Below w2.heap.size w2 W) => Sees.of_own (own_below O1 h (Nat.le_refl _)))
    have HS2 := Lib.hid (fun W (h : Below w2.heap.size w2 W) => Sees.of_own (own_below O2 h (Nat.le_refl _)))
    rw [← hN] at O1
    clear hN
    obtain ⟨a1, c1, e1⟩ := slice_form O1
    subst e1
    have HEQ := Lib.hid (fun W (h : Below w2.heap.size w2 W) => RowsInt.sameInts (restingOf ns) _ _ W (HS1.out W h) (HS2.out W h))
    go_wp2_with fail
    refine (HEQ.out _ (Below.refl _ _)).mono ?_
    rintro e w3 ⟨rfl, b3⟩
    have B3 := B2.trans (b3.mono B2.size)
    have O3 := own_below O b3 (Nat.le_refl _)
    have O13 := own_below O1 b3 (Nat.le_refl _)
    have hz3 := b3.size
    by_cases hz : N = 0
    · have hz' : ((N : Int) == 0) = true := by rw [beq_iff_eq]; omega
      have HEQ3 := Lib.hid (HEQ.out w3 b3)
      clear hz
      go_wp2_with fail
      refine HEQ3.out.mono ?_
      rintro e w4 ⟨rfl, b4⟩
      go_wp2
      go_ret
      exact ⟨rfl, B3.trans (b4.mono B3.size)⟩
    · have hz' : ((N : Int) == 0) = false := by rw [beq_eq_false_iff_ne]; omega
      have hpos : 0 < N := by omega
      have hok : schemeOk ns = true := by
        cases h : schemeOk ns
        · have h1 := HNL.out; rw [resting_no h] at h1; simp at h1; omega
        · rfl
      have HR := Lib.hid (resting_yes hok)
      have hm1 := (scheme_parts hok).1
      have hm2 := (scheme_parts hok).2.1
      have HS := Lib.hid (fun W (h : Below w3.heap.size w3 W) (i : Int) => iSchemeDecays ns i v W (Sees.of_own (own_below O3 h (Nat.le_refl _))))
      obtain ⟨M, hM⟩ : ∃ M, M = ns.length := ⟨_, rfl⟩
      have HM := Lib.hid hM
      rw [← hM] at O3 hm1 hm2
      obtain ⟨av, cv, ev⟩ := slice_form O3
      subst ev
      obtain ⟨g1, cs1, e2, hg10, hg11, hgc1, hgm1, hcell1⟩ := own_form O13 hpos
      cases e2
      have HC := Lib.hid (fun W (h : Below w3.heap.size w3 W) k (hk : k < (restingOf ns).length) => RowsInt.at_Int (w := W) (xs := restingOf ns) (b := g1) (o := 0) (fun j hj => (h.cell (p := ⟨g1, 0 + j, none⟩) hg11).trans (hcell1 j (by have := HNL.out; omega))) k hk)
      unfold maxLen at hgm1
      clear hz HEQ HS1 HS2 O O1 O2 b3 hok hM hcell1 O13 O3 hl
      go_wp2
      go_loopw [6, 7] (fun u i wr => ∃ k : Nat, k ≤ M ∧ i = .int .i64 k ∧ u = .int .i64 (restTo (linesOf ns) k).length ∧ Below w3.heap.size w3 wr) (fun _ i _ => M - (intOf i).toNat)
      case atStart => exact ⟨0, by omega, rfl, rfl, Below.refl _ _⟩
      case round =>
        obtain ⟨k, hk, rfl, rfl, hB⟩ := hrel
        have hsz := hB.size
        by_cases hlt : k < M
        · have HC4 := Lib.hid (HS.out wr hB (k : Int))
          have hpl := rest_len (linesOf ns) k
          have hlt' : (k : Int) < (M : Int) := by omega
          generalize hP : (restTo (linesOf ns) k).length = pl at *
          have HP := Lib.hid hP
          clear hP
          go_wp2_with fail
          refine HC4.out.mono ?_
          rintro e w4 ⟨v4, rfl, O4, b4⟩
          have B4 := hB.trans (b4.mono hsz)
          obtain ⟨a4, c4, e4⟩ := slice_form O4
          subst e4
          clear HC4 O4
          cases hup : up (linesOf ns) k
          · rw [decays_none hup]
            obtain ⟨hat, hyat⟩ := rest_at (n := M) hlt hup
            have u0 := HC.out w4 B4 pl (by rw [HR.out, ← HM.out, ← HP.out]; exact hat)
            have HX := Lib.hid (show (restingOf ns)[pl]'(by rw [HR.out, ← HM.out, ← HP.out]; exact hat) = (k : Int) by
              simp only [HR.out, ← HM.out, ← HP.out]; exact hyat)
            rw [HX.out, Nat.zero_add] at u0
            have hplN : pl < N := by rw [HNL.out, HR.out, ← HM.out, ← HP.out]; exact hat
            have HN := Lib.hid (show (restTo (linesOf ns) (k + 1)).length = pl + 1 by rw [rest_yes hup, ← HP.out]; simp)
            have hq0 : ¬ (N : Int) ≤ (pl : Int) := by omega
            have hq1 : (pl : Int) < (N : Int) := by omega
            clear hat hyat HX hup b4
            go_wp2
            go_roundw
            case rel => exact ⟨k + 1, by omega, by go_num, by rw [HN.out]; go_num, B4⟩
            case measure => simp [intOf]; omega
          · have HN := Lib.hid (show (restTo (linesOf ns) (k + 1)).length = pl by rw [rest_no hup, ← HP.out])
            have hd := decays_some hup
            have hd2 := decays_len ns (k : Int)
            generalize (decaysOf ns (k : Int)).length = D at *
            have hd' : ((D : Int) == 0) = false := by rw [beq_eq_false_iff_ne]; omega
            clear hup b4
            go_wp2
            go_roundw
            case rel => exact ⟨k + 1, by omega, by go_num, by rw [HN.out], B4⟩
            case measure => simp [intOf]; omega
        · obtain rfl : k = M := by omega
          have HP := Lib.hid (show (restTo (linesOf ns) k).length = N by rw [HNL.out, HR.out, ← HM.out])
          rw [HP.out]
          have h00 := HC.out wr hB 0 (by have := HNL.out; omega)
          have HX := Lib.hid (show (restingOf ns)[0]'(by have := HNL.out; omega) = 0 by
            obtain ⟨hat, hyat⟩ := rest_at (l := linesOf ns) (k := 0) (n := k) (by omega) (up_zero ns)
            simp only [HR.out, ← HM.out]
            simpa [restTo] using hyat)
          rw [HX.out, Nat.zero_add] at h00
          have hq1 : (0 : Int) < (N : Int) := by omega
          clear HX
          go_wp2
          go_ret
          exact ⟨ret_bool (by simp), B3.trans (hB.mono B3.size)⟩

end Go.Proofs.Ythdmpiioecogpaa.WFnResting
