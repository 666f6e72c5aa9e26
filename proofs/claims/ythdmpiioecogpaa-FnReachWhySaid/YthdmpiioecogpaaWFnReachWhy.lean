/-
  The walk of the law FnReachWhy.
-/
import Derived.Test.YthdmpiioecogpaaLinesCommon
import Derived.Test.YthdmpiioecogpaaDrawMatch
import Derived.Test.YthdmpiioecogpaaReachI
namespace Go.Proofs.Ythdmpiioecogpaa.WFnReachWhy
open Go.RowKit Go.Proofs.Ythdmpiioecogpaa.Spin Go.Proofs.Ythdmpiioecogpaa.Row Go.Proofs.Ythdmpiioecogpaa.Plain Go.Proofs.Ythdmpiioecogpaa.Later Go.Proofs.Ythdmpiioecogpaa.Node Go.Proofs.Ythdmpiioecogpaa.Line Go.Proofs.Ythdmpiioecogpaa.LinesFn Go.Proofs.Ythdmpiioecogpaa.LinesP Go.Proofs.Ythdmpiioecogpaa.LinesS Go.Proofs.Ythdmpiioecogpaa.RowsLine Go.Proofs.Ythdmpiioecogpaa.Rd Go.Proofs.Ythdmpiioecogpaa.DrawScheme Go.Proofs.Ythdmpiioecogpaa.DrawMatch Go.Proofs.Ythdmpiioecogpaa.Tab Go.Proofs.Ythdmpiioecogpaa.Reach Go.Proofs.Ythdmpiioecogpaa.ReachI Go.Proofs.Ythdmpiioecogpaa.SchemeLaws Go.Proofs.Ythdmpiioecogpaa.LinesCommon
set_option linter.unusedVariables false
set_option linter.unusedSimpArgs false

def fnd (S : Nat → Bool) (l : List Ln) (i k : Nat) : Bool := !S i || (l.take k).any fun y => (y.u == i && S y.l) || (y.l == i && S y.u)
theorem fnd_step {S : Nat → Bool} {l : List Ln} {i k : Nat} (hk : k < l.length) : fnd S l i (k + 1) = ((fnd S l i k || (l[k].u == i && S l[k].l)) || (l[k].l == i && S l[k].u)) := by
  unfold fnd
  rw [List.take_succ_eq_append_getElem hk, List.any_append]
  simp [Bool.or_assoc]
theorem fnd_end {ns : List Nd} {i : Nat} (h0 : i ≠ 0) {k : Nat} (hk : (linesOf ns).length ≤ k) : fnd (reach ns) (linesOf ns) i k = true := by
  unfold fnd
  rw [List.take_of_length_le hk]
  cases h : reach ns i
  · rfl
  · obtain ⟨x, hx, hc⟩ := reach_why h0 h
    have : ((linesOf ns).any fun y => (y.u == i && reach ns y.l) || (y.l == i && reach ns y.u)) = true := List.any_eq_true.2 ⟨x, hx, by
      rcases hc with ⟨h1, h2⟩ | ⟨h1, h2⟩
      · simp [h1, h2]
      · simp [h1, h2]⟩
    rw [this]; rfl

set_option maxRecDepth 100000 in
set_option maxHeartbeats 4000000 in
theorem fnReachWhy (a : Option Addr) (n c : Nat) (zs : List Int) (w0 : World) (h : IsRow .u8 w0 a n c zs) :
    Calls Try.prog 4 #[.slice a n c] w0 (Yes w0) := by
  have HO := Lib.hid (drawSchemeReach a n c zs w0 h)
  clear h
  by_cases hn : 1048576 < n
  · go_enter Try.func4, Try.ntmps4
    go_wp2_with fail
    go_ret
    exact ⟨rfl, Below.refl _ _⟩
  · have hnI : (n : Int) ≤ 1048576 := by omega
    skip
    go_enter Try.func4, Try.ntmps4
    go_wp2_with fail
    refine HO.out.mono ?_
    rintro e w ⟨ns, v, hl, rfl, O, B0⟩
    clear HO hn
    go_wp2_with fail
    (with_reducible refine (iSchemeReach ns _ _ (Sees.of_own O)).mono ?_)
    rintro e w1 ⟨v1, rfl, O1, b1⟩
    have B1 := B0.trans (b1.mono B0.size)
    replace O := own_below O b1 (Nat.le_refl _)
    have hz1 := b1.size
    clear b1 B0
    go_wp2_with fail
    (with_reducible refine (sSchemeReach ns _ _ (Sees.of_own O)).mono ?_)
    rintro e w2 ⟨v2, rfl, O2, b2⟩
    have B2 := B1.trans (b2.mono B1.size)
    replace O := own_below O b2 (Nat.le_refl _)
    replace O1 := own_below O1 b2 (Nat.le_refl _)
    have hz2 := b2.size
    clear b2 B1
    obtain ⟨N, hN⟩ : ∃ N, N = (reachOf ns).length := ⟨_, rfl⟩
    have HNL := Lib.hid hN
    have hN12 : N ≤ 12 := by rw [hN]; exact reach_len ns
    have HS1 := Lib.hid (fun W (h : Below w2.heap.size w2 W) => Sees.of_own (own_below O1 h (Nat.le_refl _)))
    have HS2 := Lib.hid (fun W (h : Below w2.heap.size w2 W) => Sees.of_own (own_below O2 h (Nat.le_refl _)))
    rw [← hN] at O1
    clear hN
    obtain ⟨a1, c1, e1⟩ := slice_form O1
    subst e1
    have HEQ := Lib.hid (fun W (h : Below w2.heap.size w2 W) => RowsBool.sameFlags (reachOf ns) _ _ W (HS1.out W h) (HS2.out W h))
    go_wp2_with fail
    refine (HEQ.out _ (Below.refl _ _)).mono ?_
    rintro e w3 ⟨rfl, b3⟩
    have B3 := B2.trans (b3.mono B2.size)
    have O3 := own_below O b3 (Nat.le_refl _)
    have O13 := own_below O1 b3 (Nat.le_refl _)
    have hz3 := b3.size
    by_cases hz : N = 0
    · have hz' : ((N : Int) == 0) = true := by rw [beq_iff_eq]; omega
      have HEQ3 := Lib.hid (HEQ.out w3 b3)
      clear hz
      go_wp2_with fail
      refine HEQ3.out.mono ?_
      rintro e w4 ⟨rfl, b4⟩
      go_wp2
      go_ret
      exact ⟨rfl, B3.trans (b4.mono B3.size)⟩
    · have hz' : ((N : Int) == 0) = false := by rw [beq_eq_false_iff_ne]; omega
      have hpos : 0 < N := by omega
      have hok : schemeOk ns = true := by
        cases h : schemeOk ns
        · have h1 := HNL.out; rw [reach_no h] at h1; simp at h1; omega
        · rfl
      obtain ⟨hRl, hRc⟩ := reach_cells hok
      have hNM : N = ns.length := HNL.out.trans hRl
      rw [hRc] at O13
      have HNM := Lib.hid hNM
      rw [← hNM] at O3 O13
      clear hz HEQ HS1 HS2 O O1 O2 b3 hok hRl hRc HNL
      have hs3 : Sees w3 3 v ns.length (ns.flatMap encN) := by rw [← hNM]; exact Sees.of_own O3
      obtain ⟨av, cv, ev⟩ := slice_form O3
      subst ev
      clear hNM
      go_wp2_with fail
      (with_reducible refine (iSchemeLines ns _ _ hs3).mono ?_)
      rintro e w4 ⟨v4, rfl, O4, b4⟩
      have B4 := B3.trans (b4.mono B3.size)
      replace O13 := own_below O13 b4 (Nat.le_refl _)
      have hz4 := b4.size
      clear b4 B3
      have hL144 := linesOf_len ns
      obtain ⟨L, hL⟩ : ∃ L, L = (linesOf ns).length := ⟨_, rfl⟩
      have HL := Lib.hid hL
      rw [← hL] at O4 hL144
      obtain ⟨a4, c4, e4⟩ := slice_form O4
      subst e4
      have HO4 := Lib.hid O4
      obtain ⟨g1, cs1, e2, hg10, hg11, hgc1, hgm1, hcell1⟩ := own_form O13 hpos
      cases e2
      have HC1 := Lib.hid (fun W (h : Below w4.heap.size w4 W) k (hk : k < N) => show W.cell? ⟨g1, k, none⟩ = some (.bool (reach ns k)) by
        have h2 := hcell1 k (by omega)
        rw [Nat.zero_add] at h2
        exact (h.cell (p := ⟨g1, k, none⟩) hg11).trans (h2.trans (tab_get _ hk)))
      have HU := Lib.hid (fun y (hy : y ∈ linesOf ns) => show y.u < N ∧ y.l < y.u by have := line_parts hy; have := HNM.out; omega)
      have HRL := Lib.hid (fun y (hy : y ∈ linesOf ns) => reach_line hy)
      unfold maxLen at hgm1
      clear hL hcell1 O4 O13 O3 hs3 hl
      go_wp2
      go_loopw [7] (fun i wr => ∃ k : Nat, 1 ≤ k ∧ k ≤ N ∧ i = .int .i64 k ∧ Below w4.heap.size w4 wr) (fun i _ => N - (intOf i).toNat)
      case atStart => exact ⟨1, by omega, by omega, rfl, Below.refl _ _⟩
      case round =>
        obtain ⟨i, hi1, hi, rfl, hB⟩ := hrel
        by_cases hlt : i < N
        · have q0 := HC1.out wr hB i hlt
          have hi3 : (i : Int) < (N : Int) := by omega
          have HST0 := Lib.hid (show fnd (reach ns) (linesOf ns) i 0 = !reach ns i by simp [fnd])
          generalize reach ns i = ri at *
          go_wp2
          go_loopw [8, 9] (fun u i2 wr => ∃ k : Nat, k ≤ L ∧ i2 = .int .i64 k ∧ u = .bool (fnd (reach ns) (linesOf ns) i k) ∧ Below w4.heap.size w4 wr) (fun _ i2 _ => L - (intOf i2).toNat)
          case atStart => exact ⟨0, by omega, rfl, by rw [HST0.out], hB⟩
          case round =>
            obtain ⟨k, hk, rfl, rfl, hB⟩ := hrel
            by_cases hltk : k < L
            · have hkl : k < (linesOf ns).length := by have := HL.out; omega
              obtain ⟨gl, cl, e2, hl0, hl1, hlc, hlm, hcell⟩ := own_form HO4.out (by omega)
              cases e2
              obtain ⟨u0, u1, u2⟩ := line_cells (w := wr) (xs := linesOf ns) (b := gl) (o := 0) (fun j hj => (hB.cell (p := ⟨gl, 0 + j, none⟩) hl1).trans (hcell j (by have := HL.out; omega))) k hkl
              simp only [Nat.zero_add] at u0 u1 u2
              obtain ⟨hu1, hu2⟩ := HU.out _ (List.getElem_mem hkl)
              have HST := Lib.hid (fnd_step (S := reach ns) (i := i) hkl)
              generalize (linesOf ns)[k] = y at *
              obtain ⟨yu, yl, yn⟩ := y
              simp only at u0 u1 u2 hu1 hu2 HST
              have q1 := HC1.out wr hB yu hu1
              have q2 := HC1.out wr hB yl (by omega)
              unfold maxLen at hlm
              have hb1 : (yu : Int) < (N : Int) := by omega
              have hb2 : (yl : Int) < (N : Int) := by omega
              have hb3 : (k : Int) < (L : Int) := by omega
              clear hcell
              cases hf : fnd (reach ns) (linesOf ns) i k
              · by_cases h1 : yu = i
                · have h1' : ((yu : Int) == (i : Int)) = true := by rw [beq_iff_eq]; omega
                  have h1b : (yu == i) = true := by rw [beq_iff_eq]; exact h1
                  cases hs : reach ns yl
                  · rw [hs] at q2
                    have h2 : ¬ yl = i := by omega
                    have h2' : ((yl : Int) == (i : Int)) = false := by rw [beq_eq_false_iff_ne]; omega
                    have h2b : (yl == i) = false := by rw [beq_eq_false_iff_ne]; exact h2
                    have HS := Lib.hid (show fnd (reach ns) (linesOf ns) i (k + 1) = false by rw [HST.out, hf, h1b, hs, h2b]; rfl)
                    clear h1 h2 h1b h2b hs hf
                    go_wp2
                    go_roundw
                    case rel => exact ⟨k + 1, by omega, by go_num, by rw [HS.out], hB⟩
                    case measure => simp [intOf]; omega
                  · rw [hs] at q2
                    have HS := Lib.hid (show fnd (reach ns) (linesOf ns) i (k + 1) = true by rw [HST.out, hf, h1b, hs]; rfl)
                    clear h1 h1b hs hf
                    go_wp2
                    go_roundw
                    case rel => exact ⟨k + 1, by omega, by go_num, by rw [HS.out], hB⟩
                    case measure => simp [intOf]; omega
                · have h1' : ((yu : Int) == (i : Int)) = false := by rw [beq_eq_false_iff_ne]; omega
                  have h1b : (yu == i) = false := by rw [beq_eq_false_iff_ne]; exact h1
                  by_cases h2 : yl = i
                  · have h2' : ((yl : Int) == (i : Int)) = true := by rw [beq_iff_eq]; omega
                    have h2b : (yl == i) = true := by rw [beq_iff_eq]; exact h2
                    have HS := Lib.hid (show fnd (reach ns) (linesOf ns) i (k + 1) = reach ns yu by rw [HST.out, hf, h1b, h2b]; simp)
                    generalize reach ns yu = ru at *
                    clear h1 h2 h1b h2b hf q2
                    go_wp2
                    go_roundw
                    case rel => exact ⟨k + 1, by omega, by go_num, by rw [HS.out], hB⟩
                    case measure => simp [intOf]; omega
                  · have h2' : ((yl : Int) == (i : Int)) = false := by rw [beq_eq_false_iff_ne]; omega
                    have h2b : (yl == i) = false := by rw [beq_eq_false_iff_ne]; exact h2
                    have HS := Lib.hid (show fnd (reach ns) (linesOf ns) i (k + 1) = false by rw [HST.out, hf, h1b, h2b]; rfl)
                    clear h1 h2 h1b h2b hf q1 q2
                    go_wp2
                    go_roundw
                    case rel => exact ⟨k + 1, by omega, by go_num, by rw [HS.out], hB⟩
                    case measure => simp [intOf]; omega
              · have HS := Lib.hid (show fnd (reach ns) (linesOf ns) i (k + 1) = true by rw [HST.out, hf]; rfl)
                clear hf q1 q2
                go_wp2
                go_roundw
                case rel => exact ⟨k + 1, by omega, by go_num, by rw [HS.out], hB⟩
                case measure => simp [intOf]; omega
            · obtain rfl : k = L := by omega
              rw [fnd_end (by omega) (by have := HL.out; omega)]
              go_wp2
              go_roundw
              case rel => exact ⟨i + 1, by omega, by omega, by go_num, hB⟩
              case measure => simp [intOf]; omega
        · obtain rfl : i = N := by omega
          go_wp2
          go_ret
          exact ⟨rfl, B4.trans (hB.mono B4.size)⟩

end Go.Proofs.Ythdmpiioecogpaa.WFnReachWhy
