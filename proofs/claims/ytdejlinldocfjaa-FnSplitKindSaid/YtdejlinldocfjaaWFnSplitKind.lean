/-
  The walk of the law FnSplitKind.
-/
import Derived.Test.YtdejlinldocfjaaSplitLaws
import Derived.Test.YtdejlinldocfjaaDrawSpl
import Derived.Test.YtdejlinldocfjaaSplitKind
import Derived.Test.YtdejlinldocfjaaDrawKind
namespace Go.Proofs.Ytdejlinldocfjaa.WFnSplitKind
open Go.Proofs.Ytdejlinldocfjaa.RowsSplit Go.RowKit Go.Proofs.Ytdejlinldocfjaa.RatP Go.Proofs.Ytdejlinldocfjaa.Rat Go.Proofs.Ytdejlinldocfjaa.Spin Go.Proofs.Ytdejlinldocfjaa.Row Go.Proofs.Ytdejlinldocfjaa.Later Go.Proofs.Ytdejlinldocfjaa.SplitPlain Go.Proofs.Ytdejlinldocfjaa.SplitDef Go.Proofs.Ytdejlinldocfjaa.SplitP Go.Proofs.Ytdejlinldocfjaa.SplitLaws Go.Proofs.Ytdejlinldocfjaa.Two Go.Proofs.Ytdejlinldocfjaa.Rd Go.Proofs.Ytdejlinldocfjaa.DrawSpl Go.Proofs.Ytdejlinldocfjaa.SplitKind Go.Proofs.Ytdejlinldocfjaa.DrawKind
set_option linter.unusedVariables false
set_option linter.unusedSimpArgs false

theorem kind_self (xs : List Sp) (kd : Int) : kindOf (kindOf xs kd) kd = kindOf xs kd := by
  unfold kindOf
  rw [List.filter_filter]
  simp
theorem kind_other (xs : List Sp) (kd : Int) : kindOf (kindOf xs kd) (kd + 2) = [] := by
  unfold kindOf
  rw [List.filter_filter, List.filter_eq_nil_iff]
  intro x _
  simp
  intro h1 h2
  omega
theorem kind_mem {xs : List Sp} {kd : Int} {i : Nat} (hi : i < (kindOf xs kd).length) : kindW (kindOf xs kd)[i].u (kindOf xs kd)[i].l = kd := by
  have h := List.getElem_mem hi
  have h2 := (List.mem_filter.1 h).2
  exact of_decide_eq_true h2
set_option maxRecDepth 100000 in
set_option maxHeartbeats 4000000 in
theorem fnSplitKind (a : Option Addr) (n c : Nat) (zs : List Int) (w0 : World) (h : IsRow .u8 w0 a n c zs) :
    Calls Try.prog 6 #[.slice a n c] w0 (Yes w0) := by
  have HO := Lib.hid (drawSplitKind a n c zs w0 h)
  clear h
  by_cases hn : 1048576 < n
  · go_enter Try.func6, Try.ntmps6
    go_wp2_with fail
    go_ret
    exact ⟨rfl, Below.refl _ _⟩
  have hd1 : decide ((1048576 : Int) < (n : Int)) = false := decide_eq_false (by omega)
  go_enter Try.func6, Try.ntmps6
  go_wp2_with fail
  refine HO.out.mono ?_
  rintro e w ⟨v, xs, kd, hx, ⟨k1, k2⟩, rfl, O0, B0⟩
  have hx2 : xs.length ≤ 1048576 := by omega
  have hkl := kind_len xs kd hx2
  have HI := Lib.hid (fun W (h : Below w.heap.size w W) => iSplitKind xs kd _ W ((Sees.of_own O0).below h (Nat.le_refl _)) hx2)
  have HS := Lib.hid (fun W (h : Below w.heap.size w W) => sSplitKind xs kd _ W ((Sees.of_own O0).below h (Nat.le_refl _)) hx2)
  have HSAME := Lib.hid (fun u v W h1 h2 => sameSplits (kindOf xs kd) u v W h1 h2)
  have HK := Lib.hid (fun i hi => kind_mem (xs := xs) (kd := kd) (i := i) hi)
  have HI1 := Lib.hid (fun u W h => iSplitKind (kindOf xs kd) kd u W h hkl)
  have HI2 := Lib.hid (fun u W h => iSplitKind (kindOf xs kd) (kd + 2) u W h hkl)
  rw [kind_self] at HI1
  rw [kind_other] at HI2
  generalize kindOf xs kd = P at *
  have b0 := Below.refl w.heap.size w
  clear O0
  go_wp2_with fail
  (with_reducible refine (HI.out _ b0).mono ?_)
  rintro e w1 ⟨v1, rfl, O1, b1⟩
  have B1 := b0.trans b1
  clear b1
  go_wp2_with fail
  (with_reducible refine (HS.out _ B1).mono ?_)
  rintro e w2 ⟨v2, rfl, O2, b2⟩
  have B2 := B1.trans (b2.mono B1.size)
  have O12 := own_below O1 b2 (Nat.le_refl _)
  clear b2 O1
  obtain ⟨a1, c1, rfl⟩ := slice_form O12
  have S1 := Sees.of_own O12
  have S2 := Sees.of_own O2
  go_wp2_with fail
  (with_reducible refine (HSAME.out _ _ _ S1 S2).mono ?_)
  rintro e w3 ⟨rfl, b3⟩
  have B3 := B2.trans (b3.mono B2.size)
  have T1 := S1.below b3 (Nat.le_refl _)
  have T2 := S2.below b3 (Nat.le_refl _)
  clear b3 S1 S2 O12 O2
  by_cases hm0 : P.length = 0
  · have hm0' : ((P.length : Int) == 0) = true := by rw [beq_iff_eq]; omega
    go_wp2_with fail
    have HQ := HSAME.out _ _ _ T1 T2
    rw [hm0] at HQ
    have HQ := Lib.hid HQ
    (with_reducible refine HQ.out.mono ?_)
    rintro e w4 ⟨rfl, b4⟩
    have B4 := B3.trans (b4.mono B3.size)
    go_wp2
    go_ret
    exact ⟨rfl, B0.trans (B4.mono B0.size)⟩
  · have hm0' : ((P.length : Int) == 0) = false := by rw [beq_eq_false_iff_ne]; omega
    rcases T1.2 with ⟨h0, _⟩ | ⟨b, o, c', hv, hnc, hcm, hb, hcell⟩
    · omega
    have HT1 := Lib.hid T1
    injection hv with hv1 hv2 hv3
    subst hv1; subst hv3
    unfold maxLen at hcm
    have HC := Lib.hid hcell
    have HB3 := Lib.hid B3
    clear T1 T2 hcell hv2 B3
    go_wp2
    go_loopw [7] (fun i wr => ∃ q : Nat, q ≤ P.length ∧ i = .int .i64 q ∧ Below w3.heap.size w3 wr) (fun i _ => P.length - (intOf i).toNat)
    case atStart => exact ⟨0, by omega, rfl, Below.refl _ _⟩
    case round =>
      obtain ⟨i, hi, rfl, hB⟩ := hrel
      have hsz := hB.size
      by_cases hlt : i < P.length
      · have hil : i < P.length := by omega
        obtain ⟨u0, u1, _, _, _, _⟩ := at_Split (w := wr) (xs := P) (b := b) (o := o) (fun j hj => (hB.cell (p := ⟨b, o + j, none⟩) hb).trans (HC.out j (by omega))) i hil
        have hy := HK.out i hil
        have hbw : b < wr.heap.size := by omega
        generalize P[i] = X at *
        obtain ⟨yu, yl, yp, yq, ys, yt⟩ := X
        simp only at u0 u1 hy
        have hy' : (wrap64 (yu - yl) != kd) = false := by
          have : wrap64 (yu - yl) = kd := hy
          rw [this]; simp
        clear hy
        go_wp2_with fail
        have f0 : ∀ p : Later wr.heap.size wr, p.W.cell? ⟨b, o + i * 6, none⟩ = some (.int .i64 yu) := Later.cell u0 hbw
        have f1 : ∀ p : Later wr.heap.size wr, p.W.cell? ⟨b, o + i * 6 + 1, none⟩ = some (.int .i64 yl) := Later.cell u1 hbw
        refine Later.wp_region_later (wr.heap.size) (by kernel_rfl) (by kernel_rfl) ?_
        repeat (first | go_big_quiet_step ((fail)) | quiet_step ((fail)))
        refine wpQuiet_nil ?_
        rintro w5 ⟨q5, hq5⟩
        have b5 := q5.h
        rw [← hq5] at b5
        clear hq5 q5
        have B5 := hB.trans (b5.mono hsz)
        clear f0 f1 b5 u0 u1
        go_wp2
        go_roundw
        case rel => exact ⟨i + 1, by omega, by go_num, B5⟩
        case measure => simp [intOf]; omega
      · obtain rfl : i = P.length := by omega
        have BB := HB3.out.trans (hB.mono HB3.out.size)
        have T5 := HT1.out.below hB (Nat.le_refl _)
        clear HT1 hB hsz
        go_wp2_with fail
        (with_reducible refine (HI1.out _ _ T5).mono ?_)
        rintro e w5 ⟨v5, rfl, O5, b5⟩
        have B5 := BB.trans (b5.mono BB.size)
        have T6 := T5.below b5 (Nat.le_refl _)
        clear b5 BB T5
        go_wp2_with fail
        (with_reducible refine (HSAME.out _ _ _ (Sees.of_own O5) T6).mono ?_)
        rintro e w6 ⟨rfl, b6⟩
        have B6 := B5.trans (b6.mono B5.size)
        have T7 := T6.below b6 (Nat.le_refl _)
        clear b6 B5 T6 O5
        go_wp2_with fail
        (with_reducible refine (HI2.out _ _ T7).mono ?_)
        rintro e w7 ⟨v7, rfl, O7, b7⟩
        have B7 := B6.trans (b7.mono B6.size)
        obtain ⟨a7, c7, rfl⟩ := slice_form O7
        clear b7 O7
        go_wp2
        go_ret
        exact ⟨rfl, B0.trans (B7.mono B0.size)⟩
end Go.Proofs.Ytdejlinldocfjaa.WFnSplitKind
