/-
  The walk of the law FnSplit.
-/
import Derived.Test.YtdejlinldocfjaaDoorSplitLaws
import Derived.Test.YtdejlinldocfjaaDoorRowsSplit
import Derived.Test.YtdejlinldocfjaaDoorDrawSpl
import Derived.Test.YtdejlinldocfjaaDoorSplI
import Derived.Test.YtdejlinldocfjaaDoorSplS
import Derived.Test.YtdejlinldocfjaaDoorSplD
import Derived.BigQuiet
import Derived.Test.YtdejlinldocfjaaDoorCgI
namespace Go.Proofs.YtdejlinldocfjaaDoor.WFnSplit
open Go.RowKit Go.Proofs.YtdejlinldocfjaaDoor.RatP Go.Proofs.YtdejlinldocfjaaDoor.ChoP Go.Proofs.YtdejlinldocfjaaDoor.Rat Go.Proofs.YtdejlinldocfjaaDoor.Spin Go.Proofs.YtdejlinldocfjaaDoor.Row Go.Proofs.YtdejlinldocfjaaDoor.Later Go.Proofs.YtdejlinldocfjaaDoor.SplitPlain Go.Proofs.YtdejlinldocfjaaDoor.SplitDef Go.Proofs.YtdejlinldocfjaaDoor.SplitP Go.Proofs.YtdejlinldocfjaaDoor.Fac Go.Proofs.YtdejlinldocfjaaDoor.FacI Go.Proofs.YtdejlinldocfjaaDoor.SplitLaws Go.Proofs.YtdejlinldocfjaaDoor.Two Go.Proofs.YtdejlinldocfjaaDoor.Rd Go.Proofs.YtdejlinldocfjaaDoor.DrawSpl Go.Proofs.YtdejlinldocfjaaDoor.SplS Go.Proofs.YtdejlinldocfjaaDoor.SplI Go.Proofs.YtdejlinldocfjaaDoor.SplD Go.Proofs.YtdejlinldocfjaaDoor.CgI
set_option linter.unusedVariables false
set_option linter.unusedSimpArgs false

set_option maxRecDepth 100000 in
set_option maxHeartbeats 8000000 in
theorem fnSplit (a : Option Addr) (n c : Nat) (zs : List Int) (w0 : World) (hE : Errs w0) (h : IsRow .u8 w0 a n c zs) :
    Calls Tryd.prog 4 #[.slice a n c] w0 (Yes w0) := by
  have HO := Lib.hid (drawSplitOf a n c zs w0 h)
  have HE := Lib.hid hE
  clear h hE
  by_cases hn : 1048576 < n
  · go_enter Tryd.func4, Tryd.ntmps4
    go_wp2_with fail
    all_goals go_ret
    all_goals exact ⟨rfl, Below.refl _ _⟩
  have hd1 : decide ((1048576 : Int) < (n : Int)) = false := decide_eq_false (by omega)
  go_enter Tryd.func4, Tryd.ntmps4
  go_wp2_with fail
  refine HO.out.mono ?_
  rintro e w ⟨s, l, j, s', l', j', rfl, B0⟩
  clear HO
  cases hs : splitOk s l j s' l' j'
  · have HI := Lib.hid (fun W (_ : Below w.heap.size w W) => iSplitOf_no s l j s' l' j' W hs)
    have HS := Lib.hid (fun W => sSplitOf_no s l j s' l' j' W hs)
    have HSS := Lib.hid (fun W v1 v2 h1 h2 => RowsSplit.sameSplits [] v1 v2 W h1 h2)
    clear hs HE
    have LV0 := lv6_two w s l j s' l' j'
    have BZ0 : Below w.heap.size w ((w.alloc (.cells #[.int .i64 s, .int .i64 l, .int .i64 j] 31)).alloc (.cells #[.int .i64 s', .int .i64 l', .int .i64 j'] 31)) := (by repeat (first | (with_reducible refine Below.drew ?_) | (with_reducible refine below_drewN ?_ _) | (with_reducible refine Below.alloc ?_ ?_ _) | (with_reducible refine Below.setCell ?_ ?_ _) | (with_reducible assumption) | (with_reducible exact Below.refl _ _) | omega | (simp <;> omega)))
    have hz0 : ((w.alloc (.cells #[.int .i64 s, .int .i64 l, .int .i64 j] 31)).alloc (.cells #[.int .i64 s', .int .i64 l', .int .i64 j'] 31)).heap.size = w.heap.size + 2 := by simp
    have HZ0 := Lib.hid hz0
    clear hz0
    go_wp2_with fail
    (with_reducible refine (HI.out _ BZ0).mono ?_)
    rintro e w1 ⟨v1, rfl, O1, b1⟩
    have B1 := BZ0.trans (b1.mono BZ0.size)
    have LV1 := LV0.below b1 (by have := HZ0.out; omega) (by have := HZ0.out; omega)
    have S1 := Sees.of_own O1
    clear b1 LV0 BZ0 HZ0 O1
    have HL1 := Lib.hid LV1
    obtain ⟨x0, x1, x2, y0, y1, y2, lx, ly⟩ := LV1
    go_wp2_with fail
    (with_reducible refine (HS.out _).mono ?_)
    rintro e w2 ⟨v2, rfl, O2, b2⟩
    have B2 := B1.trans (b2.mono B1.size)
    have S1 := S1.below b2 (Nat.le_refl _)
    have S2 := Sees.of_own O2
    have HL2 := Lib.hid (HL1.out.below b2 lx ly)
    clear b2 B1 O2 HL1 x0 x1 x2 y0 y1 y2 lx ly
    go_wp2_with fail
    (with_reducible refine (HSS.out _ _ _ S1 S2).mono ?_)
    rintro e w3 ⟨rfl, b3⟩
    have B3 := B2.trans (b3.mono B2.size)
    have S1 := S1.below b3 (Nat.le_refl _)
    have S2 := S2.below b3 (Nat.le_refl _)
    clear b3 B2
    go_wp2_with fail
    (with_reducible refine (HSS.out _ _ _ S1 S2).mono ?_)
    rintro e w4 ⟨rfl, b4⟩
    have B4 := B3.trans (b4.mono B3.size)
    go_wp2
    go_ret
    exact ⟨rfl, B0.trans (B4.mono B0.size)⟩
  have P := (splitOk_pair hs).pair
  have HEW := Lib.hid (HE.out.below B0 (by have := HE.out; obtain ⟨_, _, _, h⟩ := this; exact h))
  have HI := Lib.hid (fun W (hB : Below w.heap.size w W) => iSplitOf_yes s l j s' l' j' W hs (HEW.out.below hB (by have := HEW.out; obtain ⟨_, _, _, h⟩ := this; exact h)))
  have HS := Lib.hid (fun W => sSplitOf_yes s l j s' l' j' W hs)
  have HSP := Lib.hid hs
  obtain ⟨A, hA⟩ : ∃ A, A = gn s l j := ⟨_, rfl⟩
  obtain ⟨C, hC⟩ : ∃ C, C = gn s' l' j' := ⟨_, rfl⟩
  obtain ⟨xs, hxs⟩ : ∃ xs, xs = splitS s l j s' l' j' := ⟨_, rfl⟩
  have hxl : xs = splitL j j' A C := by rw [hxs, hA, hC]; rfl
  rw [← hxs] at HI HS
  rw [← hA, ← hC] at P
  have HA := Lib.hid hA
  have HC' := Lib.hid hC
  have HXL := Lib.hid hxl
  have HSS := Lib.hid (fun W v1 v2 h1 h2 => RowsSplit.sameSplits xs v1 v2 W h1 h2)
  have hlen := P.len_is
  rw [← hxl] at hlen
  have HP := Lib.hid P
  clear hs HE hA hC hxs hxl
  have LV0 := lv6_two w s l j s' l' j'
  have BZ0 : Below w.heap.size w ((w.alloc (.cells #[.int .i64 s, .int .i64 l, .int .i64 j] 31)).alloc (.cells #[.int .i64 s', .int .i64 l', .int .i64 j'] 31)) := (by repeat (first | (with_reducible refine Below.drew ?_) | (with_reducible refine below_drewN ?_ _) | (with_reducible refine Below.alloc ?_ ?_ _) | (with_reducible refine Below.setCell ?_ ?_ _) | (with_reducible assumption) | (with_reducible exact Below.refl _ _) | omega | (simp <;> omega)))
  have hz0 : ((w.alloc (.cells #[.int .i64 s, .int .i64 l, .int .i64 j] 31)).alloc (.cells #[.int .i64 s', .int .i64 l', .int .i64 j'] 31)).heap.size = w.heap.size + 2 := by simp
  have HZ0 := Lib.hid hz0
  clear hz0
  go_wp2_with fail
  (with_reducible refine (HI.out _ BZ0).mono ?_)
  rintro e w1 ⟨v1, rfl, O1, b1⟩
  have B1 := BZ0.trans (b1.mono BZ0.size)
  have LV1 := LV0.below b1 (by have := HZ0.out; omega) (by have := HZ0.out; omega)
  have S1 := Sees.of_own O1
  clear b1 LV0 BZ0 HZ0 O1
  have HL1 := Lib.hid LV1
  obtain ⟨x0, x1, x2, y0, y1, y2, lx, ly⟩ := LV1
  go_wp2_with fail
  (with_reducible refine (HS.out _).mono ?_)
  rintro e w2 ⟨v2, rfl, O2, b2⟩
  have B2 := B1.trans (b2.mono B1.size)
  have S1 := S1.below b2 (Nat.le_refl _)
  have S2 := Sees.of_own O2
  have HL2 := Lib.hid (HL1.out.below b2 lx ly)
  clear b2 B1 O2 HL1 x0 x1 x2 y0 y1 y2 lx ly
  go_wp2_with fail
  (with_reducible refine (HSS.out _ _ _ S1 S2).mono ?_)
  rintro e w3 ⟨rfl, b3⟩
  have B3 := B2.trans (b3.mono B2.size)
  have HL3 := Lib.hid (HL2.out.below b3 HL2.out.2.2.2.2.2.2.1 HL2.out.2.2.2.2.2.2.2)
  have S1 := S1.below b3 (Nat.le_refl _)
  clear b3 B2 S2 HL2 HSS
  obtain ⟨m, hm⟩ : ∃ m, m = xs.length := ⟨_, rfl⟩
  have HM := Lib.hid hm
  rw [← hm] at hlen
  obtain ⟨hm19, hm0, hml⟩ := hlen
  have HML := Lib.hid hml
  obtain ⟨b, o, c', rfl, hnc, hcm, hb, hcell⟩ : ∃ b o c', v1 = .slice (some ⟨b, o, none⟩) m c' ∧ m ≤ c' ∧ c' ≤ maxLen ∧ b < w3.heap.size ∧ ∀ i, i < xs.length * 6 → w3.cell? ⟨b, o + i, none⟩ = (xs.flatMap encSp)[i]? := by
    rcases S1.2 with ⟨h0, _⟩ | ⟨b, o, c', rfl, h1, h2, h3, h4⟩
    · omega
    · exact ⟨b, o, c', by rw [hm], by omega, h2, h3, h4⟩
  unfold maxLen at hcm
  have HC := Lib.hid hcell
  have B3' := B0.trans (B3.mono B0.size)
  have hw3 : 1 < w3.heap.size := Nat.lt_of_lt_of_le (by have := HEW.out; obtain ⟨_, _, _, h⟩ := this; exact h) B3.size
  have HB3 := Lib.hid B3'
  have HE3 := Lib.hid (HEW.out.below B3 (by have := HEW.out; obtain ⟨_, _, _, h⟩ := this; exact h))
  clear hm hcell S1 hml P HI HS HEW B0 B3 B3'
  go_wp2
  go_loopw [9] (fun i wr => ∃ q : Nat, q ≤ m ∧ i = .int .i64 q ∧ Below w3.heap.size w3 wr) (fun i _ => m - (intOf i).toNat)
  case atStart => exact ⟨0, by omega, rfl, Below.refl _ _⟩
  case round =>
    obtain ⟨i, hi, rfl, hB⟩ := hrel
    by_cases hlt : i < m
    · have hi1 : (i : Int) < (m : Int) := by omega
      have hil : i < xs.length := by have := HM.out; omega
      have hbw : b < wr.heap.size := Nat.lt_of_lt_of_le hb hB.size
      obtain ⟨u0, u1, u2, u3, u4, u5⟩ := RowsSplit.at_Split (w := wr) (xs := xs) (b := b) (o := o) (fun q hq => (hB.cell (p := ⟨b, o + q, none⟩) hb).trans (HC.out q hq)) i hil
      have hbd : (-6 ≤ xs[i].u ∧ xs[i].u ≤ 6) ∧ (-6 ≤ xs[i].l ∧ xs[i].l ≤ 6) ∧ (-j ≤ xs[i].u ∧ xs[i].u ≤ j ∧ (xs[i].u - j) % 2 = 0) ∧ (-j' ≤ xs[i].l ∧ xs[i].l ≤ j' ∧ (xs[i].l - j') % 2 = 0) ∧ (xs[i].u - xs[i].l = -2 ∨ xs[i].u - xs[i].l = 0 ∨ xs[i].u - xs[i].l = 2) := by
        have hx := HXL.out
        have hP := HP.out
        clear u0 u1 u2 u3 u4 u5 HXL HC HM
        subst hx
        obtain ⟨e, he, _, h2⟩ := hP.get hil
        rw [h2]
        exact hP.bd he
      have hso : ∀ k, k + 1 = i → ∀ hk : k < xs.length, xs[k].u < xs[i].u ∨ xs[k].u = xs[i].u ∧ xs[k].l < xs[i].l := by
        intro k hki hk
        have hx := HXL.out
        have hP := HP.out
        clear u0 u1 u2 u3 u4 u5 HXL HC HM hbd
        subst hx
        subst hki
        exact hP.sorted hil
      generalize xs[i] = e at *
      obtain ⟨eu, el, ep, eq, es, et⟩ := e
      simp only at u0 u1 u2 u3 u4 u5 hbd hso
      have HSO := Lib.hid hso
      obtain ⟨⟨g0, g1⟩, ⟨g2, g3⟩, g4, g5, hd⟩ := hbd
      have hx6 := HP.out.hx
      have hy6 := HP.out.hy
      have HS1 := Lib.hid (fun W => iSpinHas_yes j eu W (by omega) g4)
      have HS2 := Lib.hid (fun W => iSpinHas_yes j' el W (by omega) g5)
      have HBO := Lib.hid hB
      have hi0 : (0 : Int) ≤ (i : Int) := Int.natCast_nonneg _
      have hm' : (m : Int) ≤ 19 := by omega
      clear hB hso g4 g5 hx6 hy6 u2 u3 u4 u5
      rcases hd with hd | hd | hd
      · skip
        have hdd : eu - el = -2 := hd
        go_wp2_with fail
        go_upto_region 11 with fail
        have f0 : ∀ p : Later wr.heap.size wr, p.W.cell? ⟨b, o + i * 6, none⟩ = some (.int .i64 (eu)) := Later.cell u0 hbw
        have f1 : ∀ p : Later wr.heap.size wr, p.W.cell? ⟨b, o + i * 6 + 1, none⟩ = some (.int .i64 (el)) := Later.cell u1 hbw
        refine Later.wp_region_later (wr.heap.size) (by kernel_rfl) (by kernel_rfl) ?_
        repeat (first | go_big_quiet_step ((fail)) | quiet_step ((fail)))
        refine wpQuiet_nil ?_
        rintro w4 ⟨q4, hq4⟩
        have b4 := q4.h
        rw [← hq4] at b4
        clear hq4 q4
        obtain ⟨wo, rfl⟩ : ∃ wo : World, wo = w4 := ⟨_, rfl⟩
        have HB4 := Lib.hid (HBO.out.trans (b4.mono HBO.out.size))
        have hw4 := b4.size
        have u0 := (b4.cell (p := ⟨b, o + i * 6, none⟩) hbw).trans u0
        have u1 := (b4.cell (p := ⟨b, o + i * 6 + 1, none⟩) hbw).trans u1
        have hbw : b < wo.heap.size := Nat.lt_of_lt_of_le hbw hw4
        obtain ⟨_, _, lx2, _, _, ly2, lx, ly⟩ := HL3.out.below HB4.out HL3.out.2.2.2.2.2.2.1 HL3.out.2.2.2.2.2.2.2
        clear f0 f1 b4
        go_wp2_with fail
        go_upto_region 12 with fail
        have f0 : ∀ p : Later wo.heap.size wo, p.W.cell? ⟨b, o + i * 6, none⟩ = some (.int .i64 (eu)) := Later.cell u0 hbw
        have f1 : ∀ p : Later wo.heap.size wo, p.W.cell? ⟨b, o + i * 6 + 1, none⟩ = some (.int .i64 (el)) := Later.cell u1 hbw
        have f2 : ∀ p : Later wo.heap.size wo, p.W.cell? ⟨w.heap.size, 2, none⟩ = some (.int .i64 j) := Later.cell lx2 lx
        have f3 : ∀ p : Later wo.heap.size wo, p.W.cell? ⟨w.heap.size + 1, 2, none⟩ = some (.int .i64 j') := Later.cell ly2 ly
        refine Later.wp_region_later (wo.heap.size) (by kernel_rfl) (by kernel_rfl) ?_
        repeat (first | go_big_quiet_step ((first | (go_at_call 17; with_reducible exact later_same (HS1.out _)) | (go_at_call 17; with_reducible exact later_same (HS2.out _)))) | quiet_step ((first | (go_at_call 17; with_reducible exact later_same (HS1.out _)) | (go_at_call 17; with_reducible exact later_same (HS2.out _)))))
        refine wpQuiet_nil ?_
        rintro w5 ⟨q5, hq5⟩
        have b5 := q5.h
        rw [← hq5] at b5
        clear hq5 q5
        obtain ⟨wx, rfl⟩ : ∃ wx : World, wx = w5 := ⟨_, rfl⟩
        have HB5 := Lib.hid (HB4.out.trans (b5.mono HB4.out.size))
        have u0 := (b5.cell (p := ⟨b, o + i * 6, none⟩) hbw).trans u0
        have u1 := (b5.cell (p := ⟨b, o + i * 6 + 1, none⟩) hbw).trans u1
        have hbw : b < wx.heap.size := Nat.lt_of_lt_of_le hbw b5.size
        clear f0 f1 f2 f3 b5 lx2 ly2 lx ly
        by_cases hi00 : i = 0
        · subst hi00
          have hgi : decide ((0 : Int) < ((0 : Nat) : Int)) = false := rfl
          go_wp2_with fail
          go_upto_region 14 with fail
          refine Later.wp_region_later (wx.heap.size) (by kernel_rfl) (by kernel_rfl) ?_
          repeat (first | go_big_quiet_step ((fail)) | quiet_step ((fail)))
          refine wpQuiet_nil ?_
          rintro w6 ⟨q6, hq6⟩
          have b6 := q6.h
          rw [← hq6] at b6
          clear hq6 q6
          have B6 := HB5.out.trans (b6.mono HB5.out.size)
          go_wp2
          go_roundw
          case rel => exact ⟨0 + 1, by omega, by go_num, B6⟩
          case measure => simp [intOf]; omega
        · obtain ⟨k, hk⟩ : ∃ k : Nat, k + 1 = i := ⟨i - 1, by omega⟩
          have hki : (i : Int) - 1 = (k : Int) := by omega
          have hgi : (0 : Int) < (i : Int) := by omega
          have hgd : decide ((0 : Int) < (i : Int)) = true := decide_eq_true hgi
          have hgn : 0 < i := by omega
          have hgnd : decide (0 < i) = true := decide_eq_true hgn
          have hk1 : (k : Int) < (m : Int) := by omega
          have hkl : k < xs.length := by have := HM.out; omega
          obtain ⟨v0, v1, _, _, _, _⟩ := RowsSplit.at_Split (w := wx) (xs := xs) (b := b) (o := o) (fun q hq => (HB5.out.cell (p := ⟨b, o + q, none⟩) hb).trans (HC.out q hq)) k hkl
          have hso := HSO.out k hk hkl
          generalize xs[k] = f at *
          obtain ⟨fu, fl, fp, fq, fs, ft⟩ := f
          simp only at v0 v1 hso
          have hg1 : decide (eu < fu) = false := decide_eq_false (by omega)
          by_cases hue : fu = eu
          · have hg3 : decide (el ≤ fl) = false := decide_eq_false (by omega)
            have hg2 : (fu == eu) = true := beq_iff_eq.2 hue
            have hg2' : decide (fu = eu) = true := decide_eq_true hue
            clear hso
            go_wp2_with fail
            go_upto_region 14 with fail
            have f0 : ∀ p : Later wx.heap.size wx, p.W.cell? ⟨b, o + i * 6, none⟩ = some (.int .i64 (eu)) := Later.cell u0 hbw
            have f1 : ∀ p : Later wx.heap.size wx, p.W.cell? ⟨b, o + i * 6 + 1, none⟩ = some (.int .i64 (el)) := Later.cell u1 hbw
            have f2 : ∀ p : Later wx.heap.size wx, p.W.cell? ⟨b, o + k * 6, none⟩ = some (.int .i64 (fu)) := Later.cell v0 hbw
            have f3 : ∀ p : Later wx.heap.size wx, p.W.cell? ⟨b, o + k * 6 + 1, none⟩ = some (.int .i64 (fl)) := Later.cell v1 hbw
            refine Later.wp_region_later (wx.heap.size) (by kernel_rfl) (by kernel_rfl) ?_
            repeat (first | go_big_quiet_step ((fail)) | quiet_step ((fail)))
            refine wpQuiet_nil ?_
            rintro w6 ⟨q6, hq6⟩
            have b6 := q6.h
            rw [← hq6] at b6
            clear hq6 q6
            have B6 := HB5.out.trans (b6.mono HB5.out.size)
            clear f0 f1 f2 f3
            go_wp2
            go_roundw
            case rel => exact ⟨i + 1, by omega, by go_num, B6⟩
            case measure => simp [intOf]; omega
          · have hg2 : (fu == eu) = false := beq_eq_false_iff_ne.2 hue
            have hg2' : decide (fu = eu) = false := decide_eq_false hue
            clear hso hue
            go_wp2_with fail
            go_upto_region 14 with fail
            have f0 : ∀ p : Later wx.heap.size wx, p.W.cell? ⟨b, o + i * 6, none⟩ = some (.int .i64 (eu)) := Later.cell u0 hbw
            have f1 : ∀ p : Later wx.heap.size wx, p.W.cell? ⟨b, o + i * 6 + 1, none⟩ = some (.int .i64 (el)) := Later.cell u1 hbw
            have f2 : ∀ p : Later wx.heap.size wx, p.W.cell? ⟨b, o + k * 6, none⟩ = some (.int .i64 (fu)) := Later.cell v0 hbw
            have f3 : ∀ p : Later wx.heap.size wx, p.W.cell? ⟨b, o + k * 6 + 1, none⟩ = some (.int .i64 (fl)) := Later.cell v1 hbw
            refine Later.wp_region_later (wx.heap.size) (by kernel_rfl) (by kernel_rfl) ?_
            repeat (first | go_big_quiet_step ((fail)) | quiet_step ((fail)))
            refine wpQuiet_nil ?_
            rintro w6 ⟨q6, hq6⟩
            have b6 := q6.h
            rw [← hq6] at b6
            clear hq6 q6
            have B6 := HB5.out.trans (b6.mono HB5.out.size)
            clear f0 f1 f2 f3
            go_wp2
            go_roundw
            case rel => exact ⟨i + 1, by omega, by go_num, B6⟩
            case measure => simp [intOf]; omega
      · skip
        have hdd : eu - el = 0 := hd
        go_wp2_with fail
        go_upto_region 11 with fail
        have f0 : ∀ p : Later wr.heap.size wr, p.W.cell? ⟨b, o + i * 6, none⟩ = some (.int .i64 (eu)) := Later.cell u0 hbw
        have f1 : ∀ p : Later wr.heap.size wr, p.W.cell? ⟨b, o + i * 6 + 1, none⟩ = some (.int .i64 (el)) := Later.cell u1 hbw
        refine Later.wp_region_later (wr.heap.size) (by kernel_rfl) (by kernel_rfl) ?_
        repeat (first | go_big_quiet_step ((fail)) | quiet_step ((fail)))
        refine wpQuiet_nil ?_
        rintro w4 ⟨q4, hq4⟩
        have b4 := q4.h
        rw [← hq4] at b4
        clear hq4 q4
        obtain ⟨wo, rfl⟩ : ∃ wo : World, wo = w4 := ⟨_, rfl⟩
        have HB4 := Lib.hid (HBO.out.trans (b4.mono HBO.out.size))
        have hw4 := b4.size
        have u0 := (b4.cell (p := ⟨b, o + i * 6, none⟩) hbw).trans u0
        have u1 := (b4.cell (p := ⟨b, o + i * 6 + 1, none⟩) hbw).trans u1
        have hbw : b < wo.heap.size := Nat.lt_of_lt_of_le hbw hw4
        obtain ⟨_, _, lx2, _, _, ly2, lx, ly⟩ := HL3.out.below HB4.out HL3.out.2.2.2.2.2.2.1 HL3.out.2.2.2.2.2.2.2
        clear f0 f1 b4
        go_wp2_with fail
        go_upto_region 12 with fail
        have f0 : ∀ p : Later wo.heap.size wo, p.W.cell? ⟨b, o + i * 6, none⟩ = some (.int .i64 (eu)) := Later.cell u0 hbw
        have f1 : ∀ p : Later wo.heap.size wo, p.W.cell? ⟨b, o + i * 6 + 1, none⟩ = some (.int .i64 (el)) := Later.cell u1 hbw
        have f2 : ∀ p : Later wo.heap.size wo, p.W.cell? ⟨w.heap.size, 2, none⟩ = some (.int .i64 j) := Later.cell lx2 lx
        have f3 : ∀ p : Later wo.heap.size wo, p.W.cell? ⟨w.heap.size + 1, 2, none⟩ = some (.int .i64 j') := Later.cell ly2 ly
        refine Later.wp_region_later (wo.heap.size) (by kernel_rfl) (by kernel_rfl) ?_
        repeat (first | go_big_quiet_step ((first | (go_at_call 17; with_reducible exact later_same (HS1.out _)) | (go_at_call 17; with_reducible exact later_same (HS2.out _)))) | quiet_step ((first | (go_at_call 17; with_reducible exact later_same (HS1.out _)) | (go_at_call 17; with_reducible exact later_same (HS2.out _)))))
        refine wpQuiet_nil ?_
        rintro w5 ⟨q5, hq5⟩
        have b5 := q5.h
        rw [← hq5] at b5
        clear hq5 q5
        obtain ⟨wx, rfl⟩ : ∃ wx : World, wx = w5 := ⟨_, rfl⟩
        have HB5 := Lib.hid (HB4.out.trans (b5.mono HB4.out.size))
        have u0 := (b5.cell (p := ⟨b, o + i * 6, none⟩) hbw).trans u0
        have u1 := (b5.cell (p := ⟨b, o + i * 6 + 1, none⟩) hbw).trans u1
        have hbw : b < wx.heap.size := Nat.lt_of_lt_of_le hbw b5.size
        clear f0 f1 f2 f3 b5 lx2 ly2 lx ly
        by_cases hi00 : i = 0
        · subst hi00
          have hgi : decide ((0 : Int) < ((0 : Nat) : Int)) = false := rfl
          go_wp2_with fail
          go_upto_region 14 with fail
          refine Later.wp_region_later (wx.heap.size) (by kernel_rfl) (by kernel_rfl) ?_
          repeat (first | go_big_quiet_step ((fail)) | quiet_step ((fail)))
          refine wpQuiet_nil ?_
          rintro w6 ⟨q6, hq6⟩
          have b6 := q6.h
          rw [← hq6] at b6
          clear hq6 q6
          have B6 := HB5.out.trans (b6.mono HB5.out.size)
          go_wp2
          go_roundw
          case rel => exact ⟨0 + 1, by omega, by go_num, B6⟩
          case measure => simp [intOf]; omega
        · obtain ⟨k, hk⟩ : ∃ k : Nat, k + 1 = i := ⟨i - 1, by omega⟩
          have hki : (i : Int) - 1 = (k : Int) := by omega
          have hgi : (0 : Int) < (i : Int) := by omega
          have hgd : decide ((0 : Int) < (i : Int)) = true := decide_eq_true hgi
          have hgn : 0 < i := by omega
          have hgnd : decide (0 < i) = true := decide_eq_true hgn
          have hk1 : (k : Int) < (m : Int) := by omega
          have hkl : k < xs.length := by have := HM.out; omega
          obtain ⟨v0, v1, _, _, _, _⟩ := RowsSplit.at_Split (w := wx) (xs := xs) (b := b) (o := o) (fun q hq => (HB5.out.cell (p := ⟨b, o + q, none⟩) hb).trans (HC.out q hq)) k hkl
          have hso := HSO.out k hk hkl
          generalize xs[k] = f at *
          obtain ⟨fu, fl, fp, fq, fs, ft⟩ := f
          simp only at v0 v1 hso
          have hg1 : decide (eu < fu) = false := decide_eq_false (by omega)
          by_cases hue : fu = eu
          · have hg3 : decide (el ≤ fl) = false := decide_eq_false (by omega)
            have hg2 : (fu == eu) = true := beq_iff_eq.2 hue
            have hg2' : decide (fu = eu) = true := decide_eq_true hue
            clear hso
            go_wp2_with fail
            go_upto_region 14 with fail
            have f0 : ∀ p : Later wx.heap.size wx, p.W.cell? ⟨b, o + i * 6, none⟩ = some (.int .i64 (eu)) := Later.cell u0 hbw
            have f1 : ∀ p : Later wx.heap.size wx, p.W.cell? ⟨b, o + i * 6 + 1, none⟩ = some (.int .i64 (el)) := Later.cell u1 hbw
            have f2 : ∀ p : Later wx.heap.size wx, p.W.cell? ⟨b, o + k * 6, none⟩ = some (.int .i64 (fu)) := Later.cell v0 hbw
            have f3 : ∀ p : Later wx.heap.size wx, p.W.cell? ⟨b, o + k * 6 + 1, none⟩ = some (.int .i64 (fl)) := Later.cell v1 hbw
            refine Later.wp_region_later (wx.heap.size) (by kernel_rfl) (by kernel_rfl) ?_
            repeat (first | go_big_quiet_step ((fail)) | quiet_step ((fail)))
            refine wpQuiet_nil ?_
            rintro w6 ⟨q6, hq6⟩
            have b6 := q6.h
            rw [← hq6] at b6
            clear hq6 q6
            have B6 := HB5.out.trans (b6.mono HB5.out.size)
            clear f0 f1 f2 f3
            go_wp2
            go_roundw
            case rel => exact ⟨i + 1, by omega, by go_num, B6⟩
            case measure => simp [intOf]; omega
          · have hg2 : (fu == eu) = false := beq_eq_false_iff_ne.2 hue
            have hg2' : decide (fu = eu) = false := decide_eq_false hue
            clear hso hue
            go_wp2_with fail
            go_upto_region 14 with fail
            have f0 : ∀ p : Later wx.heap.size wx, p.W.cell? ⟨b, o + i * 6, none⟩ = some (.int .i64 (eu)) := Later.cell u0 hbw
            have f1 : ∀ p : Later wx.heap.size wx, p.W.cell? ⟨b, o + i * 6 + 1, none⟩ = some (.int .i64 (el)) := Later.cell u1 hbw
            have f2 : ∀ p : Later wx.heap.size wx, p.W.cell? ⟨b, o + k * 6, none⟩ = some (.int .i64 (fu)) := Later.cell v0 hbw
            have f3 : ∀ p : Later wx.heap.size wx, p.W.cell? ⟨b, o + k * 6 + 1, none⟩ = some (.int .i64 (fl)) := Later.cell v1 hbw
            refine Later.wp_region_later (wx.heap.size) (by kernel_rfl) (by kernel_rfl) ?_
            repeat (first | go_big_quiet_step ((fail)) | quiet_step ((fail)))
            refine wpQuiet_nil ?_
            rintro w6 ⟨q6, hq6⟩
            have b6 := q6.h
            rw [← hq6] at b6
            clear hq6 q6
            have B6 := HB5.out.trans (b6.mono HB5.out.size)
            clear f0 f1 f2 f3
            go_wp2
            go_roundw
            case rel => exact ⟨i + 1, by omega, by go_num, B6⟩
            case measure => simp [intOf]; omega
      · skip
        have hdd : eu - el = 2 := hd
        go_wp2_with fail
        go_upto_region 11 with fail
        have f0 : ∀ p : Later wr.heap.size wr, p.W.cell? ⟨b, o + i * 6, none⟩ = some (.int .i64 (eu)) := Later.cell u0 hbw
        have f1 : ∀ p : Later wr.heap.size wr, p.W.cell? ⟨b, o + i * 6 + 1, none⟩ = some (.int .i64 (el)) := Later.cell u1 hbw
        refine Later.wp_region_later (wr.heap.size) (by kernel_rfl) (by kernel_rfl) ?_
        repeat (first | go_big_quiet_step ((fail)) | quiet_step ((fail)))
        refine wpQuiet_nil ?_
        rintro w4 ⟨q4, hq4⟩
        have b4 := q4.h
        rw [← hq4] at b4
        clear hq4 q4
        obtain ⟨wo, rfl⟩ : ∃ wo : World, wo = w4 := ⟨_, rfl⟩
        have HB4 := Lib.hid (HBO.out.trans (b4.mono HBO.out.size))
        have hw4 := b4.size
        have u0 := (b4.cell (p := ⟨b, o + i * 6, none⟩) hbw).trans u0
        have u1 := (b4.cell (p := ⟨b, o + i * 6 + 1, none⟩) hbw).trans u1
        have hbw : b < wo.heap.size := Nat.lt_of_lt_of_le hbw hw4
        obtain ⟨_, _, lx2, _, _, ly2, lx, ly⟩ := HL3.out.below HB4.out HL3.out.2.2.2.2.2.2.1 HL3.out.2.2.2.2.2.2.2
        clear f0 f1 b4
        go_wp2_with fail
        go_upto_region 12 with fail
        have f0 : ∀ p : Later wo.heap.size wo, p.W.cell? ⟨b, o + i * 6, none⟩ = some (.int .i64 (eu)) := Later.cell u0 hbw
        have f1 : ∀ p : Later wo.heap.size wo, p.W.cell? ⟨b, o + i * 6 + 1, none⟩ = some (.int .i64 (el)) := Later.cell u1 hbw
        have f2 : ∀ p : Later wo.heap.size wo, p.W.cell? ⟨w.heap.size, 2, none⟩ = some (.int .i64 j) := Later.cell lx2 lx
        have f3 : ∀ p : Later wo.heap.size wo, p.W.cell? ⟨w.heap.size + 1, 2, none⟩ = some (.int .i64 j') := Later.cell ly2 ly
        refine Later.wp_region_later (wo.heap.size) (by kernel_rfl) (by kernel_rfl) ?_
        repeat (first | go_big_quiet_step ((first | (go_at_call 17; with_reducible exact later_same (HS1.out _)) | (go_at_call 17; with_reducible exact later_same (HS2.out _)))) | quiet_step ((first | (go_at_call 17; with_reducible exact later_same (HS1.out _)) | (go_at_call 17; with_reducible exact later_same (HS2.out _)))))
        refine wpQuiet_nil ?_
        rintro w5 ⟨q5, hq5⟩
        have b5 := q5.h
        rw [← hq5] at b5
        clear hq5 q5
        obtain ⟨wx, rfl⟩ : ∃ wx : World, wx = w5 := ⟨_, rfl⟩
        have HB5 := Lib.hid (HB4.out.trans (b5.mono HB4.out.size))
        have u0 := (b5.cell (p := ⟨b, o + i * 6, none⟩) hbw).trans u0
        have u1 := (b5.cell (p := ⟨b, o + i * 6 + 1, none⟩) hbw).trans u1
        have hbw : b < wx.heap.size := Nat.lt_of_lt_of_le hbw b5.size
        clear f0 f1 f2 f3 b5 lx2 ly2 lx ly
        by_cases hi00 : i = 0
        · subst hi00
          have hgi : decide ((0 : Int) < ((0 : Nat) : Int)) = false := rfl
          go_wp2_with fail
          go_upto_region 14 with fail
          refine Later.wp_region_later (wx.heap.size) (by kernel_rfl) (by kernel_rfl) ?_
          repeat (first | go_big_quiet_step ((fail)) | quiet_step ((fail)))
          refine wpQuiet_nil ?_
          rintro w6 ⟨q6, hq6⟩
          have b6 := q6.h
          rw [← hq6] at b6
          clear hq6 q6
          have B6 := HB5.out.trans (b6.mono HB5.out.size)
          go_wp2
          go_roundw
          case rel => exact ⟨0 + 1, by omega, by go_num, B6⟩
          case measure => simp [intOf]; omega
        · obtain ⟨k, hk⟩ : ∃ k : Nat, k + 1 = i := ⟨i - 1, by omega⟩
          have hki : (i : Int) - 1 = (k : Int) := by omega
          have hgi : (0 : Int) < (i : Int) := by omega
          have hgd : decide ((0 : Int) < (i : Int)) = true := decide_eq_true hgi
          have hgn : 0 < i := by omega
          have hgnd : decide (0 < i) = true := decide_eq_true hgn
          have hk1 : (k : Int) < (m : Int) := by omega
          have hkl : k < xs.length := by have := HM.out; omega
          obtain ⟨v0, v1, _, _, _, _⟩ := RowsSplit.at_Split (w := wx) (xs := xs) (b := b) (o := o) (fun q hq => (HB5.out.cell (p := ⟨b, o + q, none⟩) hb).trans (HC.out q hq)) k hkl
          have hso := HSO.out k hk hkl
          generalize xs[k] = f at *
          obtain ⟨fu, fl, fp, fq, fs, ft⟩ := f
          simp only at v0 v1 hso
          have hg1 : decide (eu < fu) = false := decide_eq_false (by omega)
          by_cases hue : fu = eu
          · have hg3 : decide (el ≤ fl) = false := decide_eq_false (by omega)
            have hg2 : (fu == eu) = true := beq_iff_eq.2 hue
            have hg2' : decide (fu = eu) = true := decide_eq_true hue
            clear hso
            go_wp2_with fail
            go_upto_region 14 with fail
            have f0 : ∀ p : Later wx.heap.size wx, p.W.cell? ⟨b, o + i * 6, none⟩ = some (.int .i64 (eu)) := Later.cell u0 hbw
            have f1 : ∀ p : Later wx.heap.size wx, p.W.cell? ⟨b, o + i * 6 + 1, none⟩ = some (.int .i64 (el)) := Later.cell u1 hbw
            have f2 : ∀ p : Later wx.heap.size wx, p.W.cell? ⟨b, o + k * 6, none⟩ = some (.int .i64 (fu)) := Later.cell v0 hbw
            have f3 : ∀ p : Later wx.heap.size wx, p.W.cell? ⟨b, o + k * 6 + 1, none⟩ = some (.int .i64 (fl)) := Later.cell v1 hbw
            refine Later.wp_region_later (wx.heap.size) (by kernel_rfl) (by kernel_rfl) ?_
            repeat (first | go_big_quiet_step ((fail)) | quiet_step ((fail)))
            refine wpQuiet_nil ?_
            rintro w6 ⟨q6, hq6⟩
            have b6 := q6.h
            rw [← hq6] at b6
            clear hq6 q6
            have B6 := HB5.out.trans (b6.mono HB5.out.size)
            clear f0 f1 f2 f3
            go_wp2
            go_roundw
            case rel => exact ⟨i + 1, by omega, by go_num, B6⟩
            case measure => simp [intOf]; omega
          · have hg2 : (fu == eu) = false := beq_eq_false_iff_ne.2 hue
            have hg2' : decide (fu = eu) = false := decide_eq_false hue
            clear hso hue
            go_wp2_with fail
            go_upto_region 14 with fail
            have f0 : ∀ p : Later wx.heap.size wx, p.W.cell? ⟨b, o + i * 6, none⟩ = some (.int .i64 (eu)) := Later.cell u0 hbw
            have f1 : ∀ p : Later wx.heap.size wx, p.W.cell? ⟨b, o + i * 6 + 1, none⟩ = some (.int .i64 (el)) := Later.cell u1 hbw
            have f2 : ∀ p : Later wx.heap.size wx, p.W.cell? ⟨b, o + k * 6, none⟩ = some (.int .i64 (fu)) := Later.cell v0 hbw
            have f3 : ∀ p : Later wx.heap.size wx, p.W.cell? ⟨b, o + k * 6 + 1, none⟩ = some (.int .i64 (fl)) := Later.cell v1 hbw
            refine Later.wp_region_later (wx.heap.size) (by kernel_rfl) (by kernel_rfl) ?_
            repeat (first | go_big_quiet_step ((fail)) | quiet_step ((fail)))
            refine wpQuiet_nil ?_
            rintro w6 ⟨q6, hq6⟩
            have b6 := q6.h
            rw [← hq6] at b6
            clear hq6 q6
            have B6 := HB5.out.trans (b6.mono HB5.out.size)
            clear f0 f1 f2 f3
            go_wp2
            go_roundw
            case rel => exact ⟨i + 1, by omega, by go_num, B6⟩
            case measure => simp [intOf]; omega
    · obtain rfl : i = m := by omega
      obtain ⟨_, _, lx2, _, _, ly2, lx, ly⟩ := HL3.out.below hB HL3.out.2.2.2.2.2.2.1 HL3.out.2.2.2.2.2.2.2
      have hmm := HML.out
      have hx6 := HP.out.hx
      have hy6 := HP.out.hy
      have B6 := HB3.out.trans (hB.mono HB3.out.size)
      clear hB
      by_cases hjj : j = j'
      · rw [if_pos hjj] at hmm
        subst hjj
        have hmn : min j j = j := by omega
        rw [hmn] at hmm
        go_wp2
        go_ret
        exact ⟨by first | rfl | (congr 2; simp; omega), B6⟩
      · rw [if_neg hjj] at hmm
        have hjb : (j == j') = false := beq_eq_false_iff_ne.2 hjj
        rcases Int.lt_or_le j j' with hlj | hlj
        · replace hmm : (i : Int) = 3 * (j + 1) := by omega
          have hle : j ≤ j' := by omega
          go_wp2
          all_goals go_ret
          all_goals exact ⟨by first | rfl | (congr 2; simp; omega), B6⟩
        · replace hmm : (i : Int) = 3 * (j' + 1) := by omega
          have hlj' : ¬ j < j' := by omega
          have hle : ¬ j ≤ j' := by omega
          go_wp2
          all_goals go_ret
          all_goals exact ⟨by first | rfl | (congr 2; simp; omega), B6⟩
end Go.Proofs.YtdejlinldocfjaaDoor.WFnSplit
