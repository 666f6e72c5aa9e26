/-
  The walk of the law FnDecays.
-/
import Derived.Test.YthdmpiioecogpaaLinesCommon
import Derived.Test.YthdmpiioecogpaaDrawMatch
import Derived.Test.YthdmpiioecogpaaDecays
namespace Go.Proofs.Ythdmpiioecogpaa.WFnDecays
open Go.RowKit Go.Proofs.Ythdmpiioecogpaa.Spin Go.Proofs.Ythdmpiioecogpaa.Row Go.Proofs.Ythdmpiioecogpaa.Plain Go.Proofs.Ythdmpiioecogpaa.Later Go.Proofs.Ythdmpiioecogpaa.Node Go.Proofs.Ythdmpiioecogpaa.Line Go.Proofs.Ythdmpiioecogpaa.LinesFn Go.Proofs.Ythdmpiioecogpaa.LinesP Go.Proofs.Ythdmpiioecogpaa.LinesS Go.Proofs.Ythdmpiioecogpaa.RowsLine Go.Proofs.Ythdmpiioecogpaa.Rd Go.Proofs.Ythdmpiioecogpaa.DrawScheme Go.Proofs.Ythdmpiioecogpaa.DrawMatch Go.Proofs.Ythdmpiioecogpaa.Decays Go.Proofs.Ythdmpiioecogpaa.SchemeLaws Go.Proofs.Ythdmpiioecogpaa.LinesCommon
set_option linter.unusedVariables false
set_option linter.unusedSimpArgs false

set_option maxRecDepth 100000 in
set_option maxHeartbeats 2000000 in
theorem fnDecays (a : Option Addr) (n c : Nat) (zs : List Int) (w0 : World) (h : IsRow .u8 w0 a n c zs) :
    Calls Try.prog 5 #[.slice a n c] w0 (Yes w0) := by
  have HO := Lib.hid (drawSchemeDecays a n c zs w0 h)
  clear h
  by_cases hn : 1048576 < n
  · go_enter Try.func5, Try.ntmps5
    go_wp2_with fail
    go_ret
    exact ⟨rfl, Below.refl _ _⟩
  · have hnI : (n : Int) ≤ 1048576 := by omega
    skip
    go_enter Try.func5, Try.ntmps5
    go_wp2_with fail
    refine HO.out.mono ?_
    rintro e w ⟨ns, v, x, hl, rfl, O, B0⟩
    clear HO hn
    go_wp2_with fail
    (with_reducible refine (iSchemeDecays ns x _ _ (Sees.of_own O)).mono ?_)
    rintro e w1 ⟨v1, rfl, O1, b1⟩
    have B1 := B0.trans (b1.mono B0.size)
    replace O := own_below O b1 (Nat.le_refl _)
    have hz1 := b1.size
    clear b1 B0
    go_wp2_with fail
    (with_reducible refine (sSchemeDecays ns x _ _ (Sees.of_own O)).mono ?_)
    rintro e w2 ⟨v2, rfl, O2, b2⟩
    have B2 := B1.trans (b2.mono B1.size)
    replace O := own_below O b2 (Nat.le_refl _)
    replace O1 := own_below O1 b2 (Nat.le_refl _)
    have hz2 := b2.size
    clear b2 B1
    obtain ⟨N, hN⟩ : ∃ N, N = (decaysOf ns x).length := ⟨_, rfl⟩
    have HNL := Lib.hid hN
    have hN144 : N ≤ 144 := by rw [hN]; exact decays_len ns x
    have HS1 := Lib.hid (fun W (h : Below w2.heap.size w2 W) => Sees.of_own (own_below O1 h (Nat.le_refl _)))
    have HS2 := Lib.hid (fun W (h : Below w2.heap.size w2 W) => Sees.of_own (own_below O2 h (Nat.le_refl _)))
    rw [← hN] at O1
    clear hN
    obtain ⟨a1, c1, e1⟩ := slice_form O1
    subst e1
    have HEQ := Lib.hid (fun W (h : Below w2.heap.size w2 W) => sameLines (decaysOf ns x) _ _ W (HS1.out W h) (HS2.out W h))
    go_wp2_with fail
    refine (HEQ.out _ (Below.refl _ _)).mono ?_
    rintro e w3 ⟨rfl, b3⟩
    have B3 := B2.trans (b3.mono B2.size)
    have O3 := own_below O b3 (Nat.le_refl _)
    have O13 := own_below O1 b3 (Nat.le_refl _)
    have hz3 := b3.size
    by_cases hz : N = 0
    · have hz' : ((N : Int) == 0) = true := by rw [beq_iff_eq]; omega
      have HEQ3 := Lib.hid (HEQ.out w3 b3)
      clear hz
      go_wp2_with fail
      refine HEQ3.out.mono ?_
      rintro e w4 ⟨rfl, b4⟩
      go_wp2
      go_ret
      exact ⟨rfl, B3.trans (b4.mono B3.size)⟩
    · have hz' : ((N : Int) == 0) = false := by rw [beq_eq_false_iff_ne]; omega
      have hpos : 0 < N := by omega
      clear hz HEQ HS1 HS2 O O1 O2 b3
      go_wp2_with fail
      (with_reducible refine (iSchemeLines ns _ _ (Sees.of_own O3)).mono ?_)
      rintro e w4 ⟨v4, rfl, O4, b4⟩
      have B4 := B3.trans (b4.mono B3.size)
      replace O13 := own_below O13 b4 (Nat.le_refl _)
      have hz4 := b4.size
      clear b4 B3
      have hall : ∀ y ∈ decaysOf ns x, (y.u : Int) = x := fun y hy => by unfold decaysOf at hy; simpa using (List.mem_filter.1 hy).2
      have HALL := Lib.hid hall
      have HDEF := Lib.hid (show decaysOf ns x = (linesOf ns).filter fun y => decide ((y.u : Int) = x) from rfl)
      have hL144 := linesOf_len ns
      have hLpos : 0 < (linesOf ns).length := by
        have h1 := HNL.out
        have h2 := List.length_filter_le (fun y : Ln => decide ((y.u : Int) = x)) (linesOf ns)
        unfold decaysOf at h1
        omega
      generalize decaysOf ns x = d at *
      generalize linesOf ns = l at *
      obtain ⟨L, hL⟩ : ∃ L, L = l.length := ⟨_, rfl⟩
      have HL := Lib.hid hL
      rw [← hL] at O4 hL144 hLpos
      obtain ⟨a4, c4, e4⟩ := slice_form O4
      subst e4
      obtain ⟨g, cs, e2, hg0, hg1, hgc, hgm, hcell⟩ := own_form O4 hLpos
      cases e2
      obtain ⟨g1, cs1, e2, hg10, hg11, hgc1, hgm1, hcell1⟩ := own_form O13 hpos
      cases e2
      have HC := Lib.hid (fun k (hk : k < l.length) => (line_cells (w := w4) (xs := l) (b := g) (o := 0) (fun j hj => hcell j (by have := HL.out; omega)) k hk).1)
      have HC1 := Lib.hid (fun k (hk : k < d.length) => (line_cells (w := w4) (xs := d) (b := g1) (o := 0) (fun j hj => hcell1 j (by have := HNL.out; omega)) k hk).1)
      unfold maxLen at hgm hgm1
      clear hall hL hcell hcell1 O4 O13 O3
      go_wp2
      go_loopw [7, 9] (fun u i wr => ∃ k : Nat, k ≤ L ∧ i = .int .i64 k ∧ u = .int .i64 (partOf l x k).length ∧ w4 = wr) (fun _ i _ => L - (intOf i).toNat)
      case atStart => exact ⟨0, by omega, rfl, rfl, rfl⟩
      case round =>
        obtain ⟨k, hk, rfl, rfl, rfl⟩ := hrel
        by_cases hlt : k < L
        · have hkl : k < l.length := by have := HL.out; omega
          have u0 := HC.out k hkl
          rw [Nat.zero_add] at u0
          have hpl := part_len l x k
          by_cases hy : (l[k].u : Int) = x
          · have HF := Lib.hid (part_yes hkl hy)
            have hy' : ((l[k].u : Int) == x) = true := by simpa using hy
            clear hy
            generalize l[k].u = yu at *
            have HP := Lib.hid (show (partOf l x (k+1)).length = (partOf l x k).length + 1 by rw [HF.out]; simp)
            clear HF
            generalize (partOf l x k).length = pl at *
            go_wp2
            go_roundw
            case rel => exact ⟨k + 1, by omega, by go_num, by rw [HP.out]; go_num, trivial⟩
            case measure => simp [intOf]; omega
          · have HF := Lib.hid (part_no hkl hy)
            have hy' : ((l[k].u : Int) == x) = false := by simpa using hy
            clear hy
            generalize l[k].u = yu at *
            have HP := Lib.hid (show (partOf l x (k+1)).length = (partOf l x k).length by rw [HF.out])
            clear HF
            generalize (partOf l x k).length = pl at *
            go_wp2
            go_roundw
            case rel => exact ⟨k + 1, by omega, by go_num, by rw [HP.out], trivial⟩
            case measure => simp [intOf]; omega
        · obtain rfl : k = L := by omega
          have HP := Lib.hid (show (partOf l x k).length = N by rw [part_all l x k (by have := HL.out; omega), ← HDEF.out]; exact HNL.out.symm)
          rw [HP.out]
          go_wp2
          go_loopw [10] (fun i wr => ∃ k : Nat, k ≤ N ∧ i = .int .i64 k ∧ w4 = wr) (fun i _ => N - (intOf i).toNat)
          case atStart => exact ⟨0, by omega, rfl, rfl⟩
          case round =>
            obtain ⟨m, hm, rfl, rfl⟩ := hrel
            by_cases hlt : m < N
            · have hml : m < d.length := by have := HNL.out; omega
              have u0 := HC1.out m hml
              rw [Nat.zero_add, HALL.out _ (List.getElem_mem hml)] at u0
              go_wp2
              go_roundw
              case rel => exact ⟨m + 1, by omega, by go_num, trivial⟩
              case measure => simp [intOf]; omega
            · obtain rfl : m = N := by omega
              go_wp2
              go_ret
              exact ⟨ret_bool (by simp), B4⟩

end Go.Proofs.Ythdmpiioecogpaa.WFnDecays
