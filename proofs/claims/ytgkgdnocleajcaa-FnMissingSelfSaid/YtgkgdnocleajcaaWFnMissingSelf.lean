/-
  The walk of the law FnMissingSelf.
-/
import Derived.Test.YtgkgdnocleajcaaLinesCommon
import Derived.Test.YtgkgdnocleajcaaMissing
namespace Go.Proofs.Ytgkgdnocleajcaa.WFnMissingSelf
open Go.RowKit Go.Proofs.Ytgkgdnocleajcaa.Spin Go.Proofs.Ytgkgdnocleajcaa.Row Go.Proofs.Ytgkgdnocleajcaa.Plain Go.Proofs.Ytgkgdnocleajcaa.Later Go.Proofs.Ytgkgdnocleajcaa.Node Go.Proofs.Ytgkgdnocleajcaa.Line Go.Proofs.Ytgkgdnocleajcaa.LinesFn Go.Proofs.Ytgkgdnocleajcaa.LinesS Go.Proofs.Ytgkgdnocleajcaa.LinesP Go.Proofs.Ytgkgdnocleajcaa.RowsLine Go.Proofs.Ytgkgdnocleajcaa.RowsNode Go.Proofs.Ytgkgdnocleajcaa.Rd Go.Proofs.Ytgkgdnocleajcaa.DrawScheme Go.Proofs.Ytgkgdnocleajcaa.LinesHelp Go.Proofs.Ytgkgdnocleajcaa.SchemeLaws Go.Proofs.Ytgkgdnocleajcaa.LinesCommon Go.Proofs.Ytgkgdnocleajcaa.Nearest Go.Proofs.Ytgkgdnocleajcaa.MatchBest Go.Proofs.Ytgkgdnocleajcaa.Tab Go.Proofs.Ytgkgdnocleajcaa.Missing
set_option linter.unusedVariables false
set_option linter.unusedSimpArgs false

def nums (l : List Ln) : List Int := l.map fun y => y.n
theorem nums_len (l : List Ln) : (nums l).length = l.length := by simp [nums]
theorem nums_step {l : List Ln} {m : Nat} (hm : m < l.length) : nums (l.take (m + 1)) = nums (l.take m) ++ [(lth l m).n] := by
  unfold nums; rw [List.take_succ_eq_append_getElem hm, List.map_append, lth_eq hm]; rfl
theorem self_hit {l : List Ln} (h : Asc l) {j : Nat} (hj : j < l.length) (hm : hit (bests l (nums l)) j = false) : 0 < j ∧ (lth l (j - 1)).n = (lth l j).n := by
  have key : ¬ (j = 0 ∨ (lth l (j - 1)).n ≠ (lth l j).n) := by
    intro hf
    have h1 := nearest_self h hj hf
    have h2 : hit (bests l (nums l)) j = true := List.any_eq_true.2 ⟨nearest l (lth l j).n 0, List.mem_map.2 ⟨(lth l j).n, List.mem_map.2 ⟨lth l j, lth_mem hj, rfl⟩, rfl⟩, by rw [h1]; simp⟩
    rw [hm] at h2; cases h2
  by_cases h1 : (lth l (j - 1)).n = (lth l j).n
  · exact ⟨by omega, h1⟩
  · exact absurd (.inr h1) key
theorem own_emptyI (w : World) (base : Nat) (hb : base ≤ w.heap.size) : (w.alloc (.cells #[] 3)).ownsRow base 3 1 (.slice (some ⟨w.heap.size, 0, none⟩) 0 0) 0 [] := by
  have h := World.ownsRow_lit (base := base) (e := 3) (size := 1) w #[] 0 (by simpa using hb) (by decide) rfl
  simpa using h

set_option maxRecDepth 100000 in
set_option maxHeartbeats 4000000 in
theorem fnMissingSelf (a : Option Addr) (n c : Nat) (zs : List Int) (w0 : World) (h : IsRow .u8 w0 a n c zs) :
    Calls Try.prog 13 #[.slice a n c] w0 (Yes w0) := by
  have HO := Lib.hid (drawSchemeLines a n c zs w0 h)
  clear h
  by_cases hn : 1048576 < n
  · go_enter Try.func13, Try.ntmps13
    go_wp2_with fail
    go_ret
    exact ⟨rfl, Below.refl _ _⟩
  · have hnI : (n : Int) ≤ 1048576 := by omega
    skip
    go_enter Try.func13, Try.ntmps13
    go_wp2_with fail
    refine HO.out.mono ?_
    rintro e w ⟨ns, v, hl, rfl, O, B0⟩
    clear HO hn
    go_wp2_with fail
    (with_reducible refine (iSchemeLines ns _ _ (Sees.of_own O)).mono ?_)
    rintro e w1 ⟨v1, rfl, O1, b1⟩
    have B1 := B0.trans (b1.mono B0.size)
    replace O := own_below O b1 (Nat.le_refl _)
    have hz1 := b1.size
    clear b1 B0
    go_wp2_with fail
    (with_reducible refine (sSchemeLines ns _ _ (Sees.of_own O)).mono ?_)
    rintro e w2 ⟨v2, rfl, O2, b2⟩
    have B2 := B1.trans (b2.mono B1.size)
    replace O := own_below O b2 (Nat.le_refl _)
    replace O1 := own_below O1 b2 (Nat.le_refl _)
    have hz2 := b2.size
    clear b2 B1
    obtain ⟨N, hN⟩ : ∃ N, N = (linesOf ns).length := ⟨_, rfl⟩
    have HNL := Lib.hid hN
    have hN144 : N ≤ 144 := by rw [hN]; exact linesOf_len ns
    have HS1 := Lib.hid (fun W (h : Below w2.heap.size w2 W) => Sees.of_own (own_below O1 h (Nat.le_refl _)))
    have HS2 := Lib.hid (fun W (h : Below w2.heap.size w2 W) => Sees.of_own (own_below O2 h (Nat.le_refl _)))
    rw [← hN] at O1
    clear hN
    obtain ⟨a1, c1, e1⟩ := slice_form O1
    subst e1
    have HEQ := Lib.hid (fun W (h : Below w2.heap.size w2 W) => sameLines (linesOf ns) _ _ W (HS1.out W h) (HS2.out W h))
    go_wp2_with fail
    refine (HEQ.out _ (Below.refl _ _)).mono ?_
    rintro e w3 ⟨rfl, b3⟩
    have B3 := B2.trans (b3.mono B2.size)
    have O3 := own_below O b3 (Nat.le_refl _)
    have O13 := own_below O1 b3 (Nat.le_refl _)
    have hz3 := b3.size
    by_cases hz : N = 0
    · have hz' : ((N : Int) == 0) = true := by rw [beq_iff_eq]; omega
      have HEQ3 := Lib.hid (HEQ.out w3 b3)
      clear hz
      go_wp2_with fail
      refine HEQ3.out.mono ?_
      rintro e w4 ⟨rfl, b4⟩
      go_wp2
      go_ret
      exact ⟨rfl, B3.trans (b4.mono B3.size)⟩
    · have hz' : ((N : Int) == 0) = false := by rw [beq_eq_false_iff_ne]; omega
      have hpos : 0 < N := by omega
      have hok : schemeOk ns = true := ok_of_pos (by have := HNL.out; omega)
      have hbd := line_bd ns
      have hasc := lines_asc ns
      have hs3 := Sees.of_own O3
      obtain ⟨g1, cs1, e2, hg10, hg11, hgc1, hgm1, hcell1⟩ := own_form O13 hpos
      cases e2
      have HML := Lib.hid (fun W (h : Below w3.heap.size w3 W) aa nn cc h1 h2 => missing_long ns v aa nn cc W (hs3.below h (Nat.le_refl _)) hok h1 h2)
      have HMS := Lib.hid (fun W (h : Below w3.heap.size w3 W) vs xs a b c => missing ns v vs xs W (hs3.below h (Nat.le_refl _)) hok a b c)
      generalize linesOf ns = l at *
      have HC := Lib.hid (fun (W : World) (h : Below w3.heap.size w3 W) (k : Nat) (hk : k < N) => show W.cell? ⟨g1, k * 3 + 2, none⟩ = some (.int .i64 (lth l k).n) by
        have hk' : k < l.length := by have := HNL.out; omega
        have h2 := (line_cells (w := W) (xs := l) (b := g1) (o := 0) (fun j hj => (h.cell (p := ⟨g1, 0 + j, none⟩) hg11).trans (hcell1 j (by have := HNL.out; omega))) k hk').2.2
        rw [Nat.zero_add] at h2
        rw [lth_eq hk']; exact h2)
      have HBD := Lib.hid hbd
      have HAS := Lib.hid hasc
      have HE0 := Lib.hid (own_emptyI w3 w3.heap.size (Nat.le_refl _))
      unfold maxLen at hgm1
      obtain ⟨j0, hi, hz0, hz1, hz2⟩ := info_parts infoInt
      have JI := Lib.hid hi
      have JZ0 := Lib.hid hz0
      have JZ1 := Lib.hid hz1
      have JZ2 := Lib.hid hz2
      clear hi hz0 hz1 hz2
      clear hz hok hcell1 O O1 O2 O3 O13 b3 HEQ HS1 HS2 hl hs3 hbd hasc
      go_wp2
      go_loopw [6, 7] (fun u i wr => ∃ (m : Nat) (v4 : Value), v4 = u ∧ m ≤ N ∧ i = .int .i64 m ∧ wr.ownsRow w3.heap.size 3 1 v4 m ((nums (l.take m)).flatMap RowsInt.encI) ∧ Below w3.heap.size w3 wr) (fun _ i _ => N - (intOf i).toNat)
      case atStart => exact ⟨0, _, rfl, by omega, rfl, by simpa [nums] using HE0.out, (by repeat (first | (with_reducible refine Below.drew ?_) | (with_reducible refine below_drewN ?_ _) | (with_reducible refine Below.alloc ?_ ?_ _) | (with_reducible refine Below.setCell ?_ ?_ _) | (with_reducible assumption) | (with_reducible exact Below.refl _ _) | omega | (simp <;> omega)))⟩
      case round =>
        obtain ⟨m, v4, rfl, hm, rfl, hown, hB⟩ := hrel
        have hsz := hB.size
        by_cases hlt : m < N
        · have u0 := HC.out wr hB m hlt
          have HST := Lib.hid (nums_step (l := l) (m := m) (by have := HNL.out; omega))
          generalize (lth l m).n = y at *
          go_wp2_with (at_builtin; refine wpList_append_own _ rfl _ _ 44 rfl w3.heap.size 3 j0 (.int .i64 0) 1 8 Try.underlying44 JI.out JZ0.out JZ1.out JZ2.out rfl (by decide) _ _ _ rfl (hown.alloc _) ⟨wr.heap.size, 0, none⟩ 1 1 [.int .i64 y] rfl rfl (cells_new _ _ _) (by simp [Value.oneCell']) (by unfold maxLen; omega) (by omega) (by simp; omega) ?_)
          intro v' w5 hown' hgrow _
          have B5 := own_step hB (Nat.le_refl _) hgrow (fun k hk => (hown.lt k hk).1)
          have O5 : w5.ownsRow w3.heap.size 3 1 v' (m + 1) ((nums (l.take (m + 1))).flatMap RowsInt.encI) := by rw [HST.out, encI_snoc]; exact hown'
          clear hown' hgrow hown u0
          go_wp2
          go_roundw
          case rel => exact ⟨m + 1, v', rfl, by omega, by go_num, O5, B5⟩
          case measure => simp [intOf]; omega
        · obtain rfl : m = N := by omega
          rw [List.take_of_length_le (by have := HNL.out; omega)] at hown
          obtain ⟨a4, c4, e4⟩ := slice_form hown
          subst e4
          have hB0 := B3.trans (hB.mono B3.size)
          by_cases h40 : 40 < m
          · have HCL := Lib.hid (HML.out wr hB a4 m c4 h40 (by omega))
            have h40I : (40 : Int) < (m : Int) := by omega
            go_wp2_with fail
            refine HCL.out.mono ?_
            rintro e w5 ⟨rfl, b5⟩
            have B5 := hB0.trans (b5.mono hB0.size)
            clear HCL b5
            go_wp2
            go_ret
            exact ⟨rfl, B5⟩
          · have h40I : (m : Int) ≤ 40 := by omega
            have HCL := Lib.hid (HMS.out wr hB (.slice a4 m c4) (nums l) (by
              have h := Sees.of_own hown
              rw [nums_len, ← HNL.out]; exact h) (by rw [nums_len, ← HNL.out]; omega) (fun x hx => by
              unfold nums at hx
              obtain ⟨y, hy, rfl⟩ := List.mem_map.1 hx
              obtain ⟨i, hi, rfl⟩ := List.getElem_of_mem hy
              have := HBD.out i hi
              rw [lth_eq hi] at this
              exact this))
            rw [← HNL.out] at HCL
            go_wp2_with fail
            refine HCL.out.mono ?_
            rintro e w5 ⟨v5, rfl, O5, b5⟩
            have hB5 := hB.trans (b5.mono hsz)
            have B5 := hB0.trans (b5.mono hB0.size)
            have HAT := Lib.hid (fun q (hq : q < (missTo (bests l (nums l)) m).length) => miss_at hq)
            have hml := miss_len (bests l (nums l)) m
            have HSH := Lib.hid (fun j (hj : j < m) (h : hit (bests l (nums l)) j = false) => self_hit HAS.out (by have := HNL.out; omega) h)
            generalize missTo (bests l (nums l)) m = P at *
            obtain ⟨pl, hpl⟩ : ∃ pl, pl = P.length := ⟨_, rfl⟩
            have HPL := Lib.hid hpl
            rw [← hpl] at O5 hml
            obtain ⟨a5, c5, e5⟩ := slice_form O5
            subst e5
            have HO5 := Lib.hid O5
            have hz5 := b5.size
            clear HCL b5 hpl O5 hown hB
            go_wp2
            go_loopw [10] (fun i wr => ∃ q : Nat, q ≤ pl ∧ i = .int .i64 q ∧ Below w5.heap.size w5 wr) (fun i _ => pl - (intOf i).toNat)
            case atStart => exact ⟨0, by omega, rfl, Below.refl _ _⟩
            case round =>
              obtain ⟨q, hq, rfl, hB⟩ := hrel
              have hszq := hB.size
              by_cases hltq : q < pl
              · have hql : q < P.length := by have := HPL.out; omega
                obtain ⟨gp, cp, e2, hp0, hp1, hpc, hpm, hcell⟩ := own_form HO5.out (by omega)
                cases e2
                obtain ⟨j, hj1, hj2, hj3⟩ := HAT.out q hql
                obtain ⟨hj4, hj5⟩ := HSH.out j hj2 hj3
                have u0 := RowsInt.at_Int (xs := P) (b := gp) (o := 0) (w := wr) (fun i hi => (hB.cell (p := ⟨gp, 0 + i, none⟩) hp1).trans (hcell i (by have := HPL.out; omega))) q hql
                rw [Nat.zero_add, hj1] at u0
                have hBW := hB5.trans (hB.mono hB5.size)
                have y0 := HC.out wr hBW j hj2
                have y1 := HC.out wr hBW (j - 1) (by omega)
                rw [hj5] at y1
                obtain ⟨t, rfl⟩ : ∃ t, j = t + 1 := ⟨j - 1, by omega⟩
                rw [Nat.add_sub_cancel] at y1
                generalize (lth l (t + 1)).n = z at *
                unfold maxLen at hpm
                have hgw : g1 < wr.heap.size := by have := hBW.size; omega
                have f0 : ∀ p : Later wr.heap.size wr, p.W.cell? ⟨gp, q, none⟩ = some (.int .i64 ((t : Int) + 1)) := Later.cell (by simpa using u0) (by omega)
                have f1 : ∀ p : Later wr.heap.size wr, p.W.cell? ⟨g1, t * 3 + 2, none⟩ = some (.int .i64 z) := Later.cell y1 hgw
                have f2 : ∀ p : Later wr.heap.size wr, p.W.cell? ⟨g1, (t + 1) * 3 + 2, none⟩ = some (.int .i64 z) := Later.cell y0 hgw
                have hqI : (q : Int) < (pl : Int) := by omega
                have ht0 : (((t : Int) + 1) == 0) = false := by rw [beq_eq_false_iff_ne]; omega
                have ht1 : (t : Int) + 1 - 1 = (t : Int) := by omega
                have ht2 : (t : Int) < (m : Int) := by omega
                have ht3 : (t : Int) + 1 < (m : Int) := by omega
                have ht4 : ((t : Int) + 1).toNat = t + 1 := by omega
                clear hcell hj1 hj3 hj4 hj5 u0 y0 y1
                go_wp2_with fail
                refine Later.wp_region_later (wr.heap.size) (by kernel_rfl) (by kernel_rfl) ?_
                repeat (first | go_big_quiet_step ((fail)) | quiet_step ((fail)))
                refine wpQuiet_nil ?_
                rintro w6 ⟨q6, hq6⟩
                have b6 := q6.h
                rw [← hq6] at b6
                clear hq6 q6
                have B6 := hB.trans (b6.mono hszq)
                clear f0 f1 f2
                go_wp2
                go_roundw
                case rel => exact ⟨q + 1, by omega, by go_num, B6⟩
                case measure => simp [intOf]; omega
              · go_wp2
                go_ret
                exact ⟨rfl, B5.trans (hB.mono B5.size)⟩

end Go.Proofs.Ytgkgdnocleajcaa.WFnMissingSelf
