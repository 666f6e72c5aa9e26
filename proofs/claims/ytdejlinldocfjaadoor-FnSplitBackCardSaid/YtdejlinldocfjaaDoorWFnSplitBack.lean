/-
  The walk of the law FnSplitBack.
-/
import Derived.Test.YtdejlinldocfjaaDoorSplitLaws
import Derived.Test.YtdejlinldocfjaaDoorRowsSplit
import Derived.Test.YtdejlinldocfjaaDoorDrawSpl
import Derived.Test.YtdejlinldocfjaaDoorSplI
import Derived.Test.YtdejlinldocfjaaDoorSplS
import Derived.Test.YtdejlinldocfjaaDoorSplD
import Derived.BigQuiet
import Derived.Test.YtdejlinldocfjaaDoorRegM
import Derived.Deep.DeepCutAuto
namespace Go.Proofs.YtdejlinldocfjaaDoor.WFnSplitBack
open Go.RowKit Go.Proofs.YtdejlinldocfjaaDoor.RatP Go.Proofs.YtdejlinldocfjaaDoor.ChoP Go.Proofs.YtdejlinldocfjaaDoor.Rat Go.Proofs.YtdejlinldocfjaaDoor.Spin Go.Proofs.YtdejlinldocfjaaDoor.Row Go.Proofs.YtdejlinldocfjaaDoor.Later Go.Proofs.YtdejlinldocfjaaDoor.SplitPlain Go.Proofs.YtdejlinldocfjaaDoor.SplitDef Go.Proofs.YtdejlinldocfjaaDoor.SplitP Go.Proofs.YtdejlinldocfjaaDoor.Fac Go.Proofs.YtdejlinldocfjaaDoor.FacI Go.Proofs.YtdejlinldocfjaaDoor.SplitLaws Go.Proofs.YtdejlinldocfjaaDoor.Two Go.Proofs.YtdejlinldocfjaaDoor.Rd Go.Proofs.YtdejlinldocfjaaDoor.DrawSpl Go.Proofs.YtdejlinldocfjaaDoor.SplS Go.Proofs.YtdejlinldocfjaaDoor.SplI Go.Proofs.YtdejlinldocfjaaDoor.SplD Go.Proofs.YtdejlinldocfjaaDoor.RegM
set_option linter.unusedVariables false
set_option linter.unusedSimpArgs false

set_option maxRecDepth 100000 in
set_option maxHeartbeats 8000000 in
theorem fnSplitBack (a : Option Addr) (n c : Nat) (zs : List Int) (w0 : World) (hE : Errs w0) (h : IsRow .u8 w0 a n c zs) :
    Calls Tryd.prog 8 #[.slice a n c] w0 (Yes w0) := by
  have HO := Lib.hid (drawSplitOf a n c zs w0 h)
  have HE := Lib.hid hE
  clear h hE
  by_cases hn : 1048576 < n
  · go_enter Tryd.func8, Tryd.ntmps8
    go_wp2_with fail
    all_goals go_ret
    all_goals exact ⟨rfl, Below.refl _ _⟩
  have hd1 : decide ((1048576 : Int) < (n : Int)) = false := decide_eq_false (by omega)
  go_enter Tryd.func8, Tryd.ntmps8
  go_wp2_with fail
  refine HO.out.mono ?_
  rintro e w ⟨s, l, j, s', l', j', rfl, B0⟩
  clear HO
  cases hs : splitOk s l j s' l' j'
  · have HI := Lib.hid (fun W (_ : Below w.heap.size w W) => iSplitOf_no s l j s' l' j' W hs)
    have HS := Lib.hid (fun W => sSplitOf_no s l j s' l' j' W hs)
    have HSS := Lib.hid (fun W v1 v2 h1 h2 => RowsSplit.sameSplits [] v1 v2 W h1 h2)
    clear hs HE
    have LV0 := lv6_two w s l j s' l' j'
    have BZ0 : Below w.heap.size w ((w.alloc (.cells #[.int .i64 s, .int .i64 l, .int .i64 j] 31)).alloc (.cells #[.int .i64 s', .int .i64 l', .int .i64 j'] 31)) := (by repeat (first | (with_reducible refine Below.drew ?_) | (with_reducible refine below_drewN ?_ _) | (with_reducible refine Below.alloc ?_ ?_ _) | (with_reducible refine Below.setCell ?_ ?_ _) | (with_reducible assumption) | (with_reducible exact Below.refl _ _) | omega | (simp <;> omega)))
    have hz0 : ((w.alloc (.cells #[.int .i64 s, .int .i64 l, .int .i64 j] 31)).alloc (.cells #[.int .i64 s', .int .i64 l', .int .i64 j'] 31)).heap.size = w.heap.size + 2 := by simp
    have HZ0 := Lib.hid hz0
    clear hz0
    go_wp2_with fail
    (with_reducible refine (HI.out _ BZ0).mono ?_)
    rintro e w1 ⟨v1, rfl, O1, b1⟩
    have B1 := BZ0.trans (b1.mono BZ0.size)
    have LV1 := LV0.below b1 (by have := HZ0.out; omega) (by have := HZ0.out; omega)
    have S1 := Sees.of_own O1
    clear b1 LV0 BZ0 HZ0 O1
    have HL1 := Lib.hid LV1
    obtain ⟨x0, x1, x2, y0, y1, y2, lx, ly⟩ := LV1
    go_wp2_with fail
    (with_reducible refine (HS.out _).mono ?_)
    rintro e w2 ⟨v2, rfl, O2, b2⟩
    have B2 := B1.trans (b2.mono B1.size)
    have S1 := S1.below b2 (Nat.le_refl _)
    have S2 := Sees.of_own O2
    have HL2 := Lib.hid (HL1.out.below b2 lx ly)
    clear b2 B1 O2 HL1 x0 x1 x2 y0 y1 y2 lx ly
    go_wp2_with fail
    (with_reducible refine (HSS.out _ _ _ S1 S2).mono ?_)
    rintro e w3 ⟨rfl, b3⟩
    have B3 := B2.trans (b3.mono B2.size)
    have S1 := S1.below b3 (Nat.le_refl _)
    have S2 := S2.below b3 (Nat.le_refl _)
    clear b3 B2
    go_wp2_with fail
    (with_reducible refine (HSS.out _ _ _ S1 S2).mono ?_)
    rintro e w4 ⟨rfl, b4⟩
    have B4 := B3.trans (b4.mono B3.size)
    go_wp2
    go_ret
    exact ⟨rfl, B0.trans (B4.mono B0.size)⟩
  have P := (splitOk_pair hs).pair
  have HEW := Lib.hid (HE.out.below B0 (by have := HE.out; obtain ⟨_, _, _, h⟩ := this; exact h))
  have HI := Lib.hid (fun W (hB : Below w.heap.size w W) => iSplitOf_yes s l j s' l' j' W hs (HEW.out.below hB (by have := HEW.out; obtain ⟨_, _, _, h⟩ := this; exact h)))
  have HS := Lib.hid (fun W => sSplitOf_yes s l j s' l' j' W hs)
  have HSP := Lib.hid hs
  obtain ⟨A, hA⟩ : ∃ A, A = gn s l j := ⟨_, rfl⟩
  obtain ⟨C, hC⟩ : ∃ C, C = gn s' l' j' := ⟨_, rfl⟩
  obtain ⟨xs, hxs⟩ : ∃ xs, xs = splitS s l j s' l' j' := ⟨_, rfl⟩
  have hxl : xs = splitL j j' A C := by rw [hxs, hA, hC]; rfl
  rw [← hxs] at HI HS
  rw [← hA, ← hC] at P
  have HA := Lib.hid hA
  have HC' := Lib.hid hC
  have HXL := Lib.hid hxl
  have HSS := Lib.hid (fun W v1 v2 h1 h2 => RowsSplit.sameSplits xs v1 v2 W h1 h2)
  have hlen := P.len_is
  rw [← hxl] at hlen
  have HP := Lib.hid P
  clear hs HE hA hC hxs hxl
  have LV0 := lv6_two w s l j s' l' j'
  have BZ0 : Below w.heap.size w ((w.alloc (.cells #[.int .i64 s, .int .i64 l, .int .i64 j] 31)).alloc (.cells #[.int .i64 s', .int .i64 l', .int .i64 j'] 31)) := (by repeat (first | (with_reducible refine Below.drew ?_) | (with_reducible refine below_drewN ?_ _) | (with_reducible refine Below.alloc ?_ ?_ _) | (with_reducible refine Below.setCell ?_ ?_ _) | (with_reducible assumption) | (with_reducible exact Below.refl _ _) | omega | (simp <;> omega)))
  have hz0 : ((w.alloc (.cells #[.int .i64 s, .int .i64 l, .int .i64 j] 31)).alloc (.cells #[.int .i64 s', .int .i64 l', .int .i64 j'] 31)).heap.size = w.heap.size + 2 := by simp
  have HZ0 := Lib.hid hz0
  clear hz0
  go_wp2_with fail
  (with_reducible refine (HI.out _ BZ0).mono ?_)
  rintro e w1 ⟨v1, rfl, O1, b1⟩
  have B1 := BZ0.trans (b1.mono BZ0.size)
  have LV1 := LV0.below b1 (by have := HZ0.out; omega) (by have := HZ0.out; omega)
  have S1 := Sees.of_own O1
  clear b1 LV0 BZ0 HZ0 O1
  have HL1 := Lib.hid LV1
  obtain ⟨x0, x1, x2, y0, y1, y2, lx, ly⟩ := LV1
  go_wp2_with fail
  (with_reducible refine (HS.out _).mono ?_)
  rintro e w2 ⟨v2, rfl, O2, b2⟩
  have B2 := B1.trans (b2.mono B1.size)
  have S1 := S1.below b2 (Nat.le_refl _)
  have S2 := Sees.of_own O2
  have HL2 := Lib.hid (HL1.out.below b2 lx ly)
  clear b2 B1 O2 HL1 x0 x1 x2 y0 y1 y2 lx ly
  go_wp2_with fail
  (with_reducible refine (HSS.out _ _ _ S1 S2).mono ?_)
  rintro e w3 ⟨rfl, b3⟩
  have B3 := B2.trans (b3.mono B2.size)
  have HL3 := Lib.hid (HL2.out.below b3 HL2.out.2.2.2.2.2.2.1 HL2.out.2.2.2.2.2.2.2)
  have S1 := S1.below b3 (Nat.le_refl _)
  clear b3 B2 S2 HL2 HSS
  obtain ⟨m, hm⟩ : ∃ m, m = xs.length := ⟨_, rfl⟩
  have HM := Lib.hid hm
  rw [← hm] at hlen
  obtain ⟨hm19, hm0, hml⟩ := hlen
  have HML := Lib.hid hml
  obtain ⟨b, o, c', rfl, hnc, hcm, hb, hcell⟩ : ∃ b o c', v1 = .slice (some ⟨b, o, none⟩) m c' ∧ m ≤ c' ∧ c' ≤ maxLen ∧ b < w3.heap.size ∧ ∀ i, i < xs.length * 6 → w3.cell? ⟨b, o + i, none⟩ = (xs.flatMap encSp)[i]? := by
    rcases S1.2 with ⟨h0, _⟩ | ⟨b, o, c', rfl, h1, h2, h3, h4⟩
    · omega
    · exact ⟨b, o, c', by rw [hm], by omega, h2, h3, h4⟩
  unfold maxLen at hcm
  have HC := Lib.hid hcell
  have B3' := B0.trans (B3.mono B0.size)
  have hw3 : 1 < w3.heap.size := Nat.lt_of_lt_of_le (by have := HEW.out; obtain ⟨_, _, _, h⟩ := this; exact h) B3.size
  have HB3 := Lib.hid B3'
  have HE3 := Lib.hid (HEW.out.below B3 (by have := HEW.out; obtain ⟨_, _, _, h⟩ := this; exact h))
  clear hm hcell S1 hml P HI HS HEW B0 B3 B3'
  have hs2 := splitOk_swap HSP.out
  have hI2 := fun W (hB : Below w3.heap.size w3 W) => iSplitOf_yes s' l' j' s l j W hs2 (HE3.out.below hB hw3)
  obtain ⟨ys, hys⟩ : ∃ ys, ys = splitS s' l' j' s l j := ⟨_, rfl⟩
  rw [← hys] at hI2
  have hyl : ys = splitL j' j C A := by rw [hys, HA.out, HC'.out]; rfl
  have hlen2 : ys.length = m := by rw [hyl, HM.out, HXL.out]; exact HP.out.back_len
  have hback : ∀ i (hi : i < xs.length) k (hk : k < ys.length), ys[k].u = xs[i].l → ys[k].l = xs[i].u → (∃ r : Ro, r.ok = true ∧ mulR ys[k].s ys[k].t (j + 1) 1 = r ∧ mulR xs[i].s xs[i].t (j' + 1) 1 = r) ∧ ys[k].p = 0 - xs[i].p ∧ ys[k].q = xs[i].q := by
    have hx := HXL.out
    have hP := HP.out
    clear HXL HC HM hI2 hlen2 hys
    subst hx
    subst hyl
    intro i hi k hk h1 h2
    exact hP.back hi hk h1 h2
  have hex : ∀ i (hi : i < xs.length), ∃ (k : Nat) (hk : k < ys.length), ys[k].u = xs[i].l ∧ ys[k].l = xs[i].u := by
    have hx := HXL.out
    have hP := HP.out
    clear HXL HC HM hI2 hlen2 hys hback
    subst hx
    subst hyl
    intro i hi
    exact hP.back_ex hi
  have HI2 := Lib.hid hI2
  have HBK := Lib.hid hback
  have HEX := Lib.hid hex
  have HL2 := Lib.hid hlen2
  obtain ⟨x0, x1, x2, y0, y1, y2, lx, ly⟩ := HL3.out
  clear hs2 hI2 hys hyl hback hex
  go_wp2_with fail
  (with_reducible refine (HI2.out _ (Below.refl _ _)).mono ?_)
  rintro e w4 ⟨v2, rfl, O4, b4⟩
  have S2 := Sees.of_own O4
  obtain ⟨b2, o2, c2, rfl, hnc2, hcm2, hb2, hcell2⟩ : ∃ b o c', v2 = .slice (some ⟨b, o, none⟩) m c' ∧ m ≤ c' ∧ c' ≤ maxLen ∧ b < w4.heap.size ∧ ∀ i, i < ys.length * 6 → w4.cell? ⟨b, o + i, none⟩ = (ys.flatMap encSp)[i]? := by
    rcases S2.2 with ⟨h0, _⟩ | ⟨b, o, c', rfl, h1, h2, h3, h4⟩
    · omega
    · exact ⟨b, o, c', by rw [hlen2], by omega, h2, h3, h4⟩
  unfold maxLen at hcm2
  have HC2 := Lib.hid hcell2
  have HL4 := Lib.hid (HL3.out.below b4 lx ly)
  have BZ := b4
  clear hcell2 S2 O4 b4 HI2 HL3 x0 x1 x2 y0 y1 y2 lx ly hlen2
  go_wp2
  go_loopw [11] (fun i wr => ∃ q : Nat, q ≤ m ∧ i = .int .i64 q ∧ Below w4.heap.size w4 wr) (fun i _ => m - (intOf i).toNat)
  case atStart => exact ⟨0, by omega, rfl, Below.refl _ _⟩
  case round =>
    obtain ⟨i, hi, rfl, hB⟩ := hrel
    by_cases hlt : i < m
    · have hi1 : (i : Int) < (m : Int) := by omega
      have hil : i < xs.length := by have := HM.out; omega
      have hbw : b < wr.heap.size := Nat.lt_of_lt_of_le hb (Nat.le_trans BZ.size hB.size)
      obtain ⟨u0, u1, u2, u3, u4, u5⟩ := RowsSplit.at_Split (w := wr) (xs := xs) (b := b) (o := o) (fun q hq => ((BZ.trans (hB.mono BZ.size)).cell (p := ⟨b, o + q, none⟩) hb).trans (HC.out q hq)) i hil
      obtain ⟨K, hK, hK1, hK2⟩ := HEX.out i hil
      have hbk := HBK.out i hil
      have hKm : K < m := by have := HL2.out; omega
      have hbe : -1000000000 ≤ xs[i].p ∧ xs[i].p ≤ 1000000000 := by
        have hx := HXL.out
        have hP := HP.out
        clear u0 u1 u2 u3 u4 u5 HXL HC HM hbk hK1 hK2 HBK HEX
        subst hx
        have := sp_bds hP hil
        exact this.2.2.1
      generalize xs[i] = e at *
      obtain ⟨eu, el, ep, eq, es, et⟩ := e
      simp only at u0 u1 u2 u3 u4 u5 hbk hK1 hK2 hbe
      have HKK := Lib.hid (show ∀ k (hk : k < ys.length), k = K → ys[k].u = el ∧ ys[k].l = eu from by intro k hk h; subst h; exact ⟨hK1, hK2⟩)
      have HBE := Lib.hid hbk
      have HN := Lib.hid (fun W => lminus ep eq W hbe.1 hbe.2)
      have HBR := Lib.hid hB
      have HU := Lib.hid (And.intro u0 (And.intro u1 (And.intro u2 (And.intro u3 (And.intro u4 u5)))))
      obtain ⟨W4, rfl⟩ : ∃ W4, W4 = wr := ⟨_, rfl⟩
      have hbw2 : b2 < W4.heap.size := Nat.lt_of_lt_of_le hb2 hB.size
      have hx6 := HP.out.hx
      have hy6 := HP.out.hy
      obtain ⟨hj0, hj6⟩ := hx6
      obtain ⟨hj0', hj6'⟩ := hy6
      have hw1 : IntKind.i64.wrap (j + 1) = j + 1 := IntWalk.i64_in _ (by omega)
      have hw2 : IntKind.i64.wrap (j' + 1) = j' + 1 := IntWalk.i64_in _ (by omega)
      have HW1 := Lib.hid (fun W => lwhole (j + 1) W)
      have HW2 := Lib.hid (fun W => lwhole (j' + 1) W)
      clear hK1 hK2 hbk hbe hB u0 u1 u2 u3 u4 u5
      go_wp2
      go_loopw [12, 13] (fun f k wr => ∃ (q : Nat) (fb : Bool), q ≤ m ∧ k = .int .i64 q ∧ f = .bool fb ∧ (K < q → fb = true) ∧ Below W4.heap.size W4 wr) (fun _ k _ => m - (intOf k).toNat)
      case atStart => exact ⟨0, false, by omega, rfl, rfl, by omega, Below.refl _ _⟩
      case round =>
        obtain ⟨k, fb, hk, rfl, rfl, hfb, hB⟩ := hrel
        by_cases hkm : k < m
        · have hk1 : (k : Int) < (m : Int) := by omega
          have hkl : k < ys.length := by have := HL2.out; omega
          have HB4 := Lib.hid (HBR.out.trans (hB.mono HBR.out.size))
          obtain ⟨u0, u1, u2, u3, u4, u5⟩ := HU.out
          have hbr := hbw
          have hbr2 := hbw2
          have u0 := (hB.cell (p := ⟨b, o + i * 6, none⟩) hbw).trans u0
          have u1 := (hB.cell (p := ⟨b, o + i * 6 + 1, none⟩) hbw).trans u1
          have u2 := (hB.cell (p := ⟨b, o + i * 6 + 2, none⟩) hbw).trans u2
          have u3 := (hB.cell (p := ⟨b, o + i * 6 + 3, none⟩) hbw).trans u3
          have u4 := (hB.cell (p := ⟨b, o + i * 6 + 4, none⟩) hbw).trans u4
          have u5 := (hB.cell (p := ⟨b, o + i * 6 + 5, none⟩) hbw).trans u5
          have hbr : b < wr.heap.size := Nat.lt_of_lt_of_le hbw hB.size
          have hbr2 : b2 < wr.heap.size := Nat.lt_of_lt_of_le hbw2 hB.size
          obtain ⟨v0, v1, v2, v3, v4, v5⟩ := RowsSplit.at_Split (w := wr) (xs := ys) (b := b2) (o := o2) (fun q hq => (HB4.out.cell (p := ⟨b2, o2 + q, none⟩) hb2).trans (HC2.out q hq)) k hkl
          have hkk := HKK.out k hkl
          have hbk := HBE.out k hkl
          generalize ys[k] = f at *
          obtain ⟨fu, fl, fp, fq, fs, ft⟩ := f
          simp only at v0 v1 v2 v3 v4 v5 hkk hbk
          have HBK2 := Lib.hid hbk
          have HBI := Lib.hid hB
          have HFB := Lib.hid hfb
          clear hB hfb hbk
          by_cases g1 : fu = el
          case neg =>
            have hne : ¬ k = K := fun h => g1 (hkk h).1
            have g1b : (fu == el) = false := beq_eq_false_iff_ne.2 g1
            have g1d : decide (fu = el) = false := decide_eq_false g1
            clear hkk
            go_wp2_with fail
            go_upto_region 18 with fail
            have f0 : ∀ p : Later wr.heap.size wr, p.W.cell? ⟨b, o + i * 6, none⟩ = some (.int .i64 (eu)) := Later.cell u0 hbr
            have f1 : ∀ p : Later wr.heap.size wr, p.W.cell? ⟨b, o + i * 6 + 1, none⟩ = some (.int .i64 (el)) := Later.cell u1 hbr
            have f2 : ∀ p : Later wr.heap.size wr, p.W.cell? ⟨b2, o2 + k * 6, none⟩ = some (.int .i64 (fu)) := Later.cell v0 hbr2
            have f3 : ∀ p : Later wr.heap.size wr, p.W.cell? ⟨b2, o2 + k * 6 + 1, none⟩ = some (.int .i64 (fl)) := Later.cell v1 hbr2
            refine Later.wp_region_later (wr.heap.size) (by kernel_rfl) (by kernel_rfl) ?_
            repeat (first | go_big_quiet_step ((fail)) | quiet_step ((fail)))
            refine wpQuiet_nil ?_
            rintro w5 ⟨q5, hq5⟩
            have b5 := q5.h
            rw [← hq5] at b5
            clear hq5 q5
            have B5 := HBI.out.trans (b5.mono HBI.out.size)
            clear f0 f1 f2 f3
            go_wp2
            go_roundw
            case rel => exact ⟨k + 1, fb, by omega, by go_num, rfl, fun h => HFB.out (by omega), B5⟩
            case measure => simp [intOf]; omega
          have g1b : (fu == el) = true := beq_iff_eq.2 g1
          have g1d : decide (fu = el) = true := decide_eq_true g1
          by_cases g2 : fl = eu
          case neg =>
            have hne : ¬ k = K := fun h => g2 (hkk h).2
            have g2b : (fl == eu) = false := beq_eq_false_iff_ne.2 g2
            have g2d : decide (fl = eu) = false := decide_eq_false g2
            clear hkk
            go_wp2_with fail
            go_upto_region 18 with fail
            have f0 : ∀ p : Later wr.heap.size wr, p.W.cell? ⟨b, o + i * 6, none⟩ = some (.int .i64 (eu)) := Later.cell u0 hbr
            have f1 : ∀ p : Later wr.heap.size wr, p.W.cell? ⟨b, o + i * 6 + 1, none⟩ = some (.int .i64 (el)) := Later.cell u1 hbr
            have f2 : ∀ p : Later wr.heap.size wr, p.W.cell? ⟨b2, o2 + k * 6, none⟩ = some (.int .i64 (fu)) := Later.cell v0 hbr2
            have f3 : ∀ p : Later wr.heap.size wr, p.W.cell? ⟨b2, o2 + k * 6 + 1, none⟩ = some (.int .i64 (fl)) := Later.cell v1 hbr2
            refine Later.wp_region_later (wr.heap.size) (by kernel_rfl) (by kernel_rfl) ?_
            repeat (first | go_big_quiet_step ((fail)) | quiet_step ((fail)))
            refine wpQuiet_nil ?_
            rintro w5 ⟨q5, hq5⟩
            have b5 := q5.h
            rw [← hq5] at b5
            clear hq5 q5
            have B5 := HBI.out.trans (b5.mono HBI.out.size)
            clear f0 f1 f2 f3
            go_wp2
            go_roundw
            case rel => exact ⟨k + 1, fb, by omega, by go_num, rfl, fun h => HFB.out (by omega), B5⟩
            case measure => simp [intOf]; omega
          subst g1 g2
          obtain ⟨⟨⟨rn, rd, rk⟩, hrk, m1, m2⟩, hp, hq⟩ := HBK2.out rfl rfl
          simp only at hrk hp hq m1 m2
          subst hrk
          have hM1 := fun W => iRatMul fs ft (j + 1) 1 W
          have hM2 := fun W => iRatMul es et (j' + 1) 1 W
          rw [m1] at hM1
          rw [m2] at hM2
          unfold roV at hM1 hM2
          simp only at hM1 hM2
          have HM1 := Lib.hid hM1
          have HM2 := Lib.hid hM2
          rw [Int.zero_sub] at hp
          subst hp hq
          clear m1 m2 hM1 hM2 HBK2 hkk g1b g1d
          go_wp2_with fail
          go_upto_region 18 with fail
          have f0 : ∀ p : Later wr.heap.size wr, p.W.cell? ⟨b, o + i * 6, none⟩ = some (.int .i64 (fl)) := Later.cell u0 hbr
          have f1 : ∀ p : Later wr.heap.size wr, p.W.cell? ⟨b, o + i * 6 + 1, none⟩ = some (.int .i64 (fu)) := Later.cell u1 hbr
          have f2 : ∀ p : Later wr.heap.size wr, p.W.cell? ⟨b2, o2 + k * 6, none⟩ = some (.int .i64 (fu)) := Later.cell v0 hbr2
          have f3 : ∀ p : Later wr.heap.size wr, p.W.cell? ⟨b2, o2 + k * 6 + 1, none⟩ = some (.int .i64 (fl)) := Later.cell v1 hbr2
          refine Later.wp_region_later (wr.heap.size) (by kernel_rfl) (by kernel_rfl) ?_
          repeat (first | go_big_quiet_step ((fail)) | quiet_step ((fail)))
          refine wpQuiet_nil ?_
          rintro w5 ⟨q5, hq5⟩
          have b5 := q5.h
          rw [← hq5] at b5
          clear hq5 q5
          clear f0 f1 f2 f3
          have hs5 := b5.size
          obtain ⟨_, _, x2, _, _, y2, lx, ly⟩ := HL4.out.below (HB4.out.trans (b5.mono HB4.out.size)) HL4.out.2.2.2.2.2.2.1 HL4.out.2.2.2.2.2.2.2
          have u2 := (b5.cell (p := ⟨b, o + i * 6 + 2, none⟩) hbr).trans u2
          have u3 := (b5.cell (p := ⟨b, o + i * 6 + 3, none⟩) hbr).trans u3
          have u4 := (b5.cell (p := ⟨b, o + i * 6 + 4, none⟩) hbr).trans u4
          have u5 := (b5.cell (p := ⟨b, o + i * 6 + 5, none⟩) hbr).trans u5
          have v2 := (b5.cell (p := ⟨b2, o2 + k * 6 + 2, none⟩) hbr2).trans v2
          have v3 := (b5.cell (p := ⟨b2, o2 + k * 6 + 3, none⟩) hbr2).trans v3
          have v4 := (b5.cell (p := ⟨b2, o2 + k * 6 + 4, none⟩) hbr2).trans v4
          have v5 := (b5.cell (p := ⟨b2, o2 + k * 6 + 5, none⟩) hbr2).trans v5
          have hbr : b < w5.heap.size := Nat.lt_of_lt_of_le hbr b5.size
          have hbr2 : b2 < w5.heap.size := Nat.lt_of_lt_of_le hbr2 b5.size
          have HB5 := Lib.hid (HBI.out.trans (b5.mono HBI.out.size))
          clear b5 u0 u1 v0 v1
          go_wp2_with fail
          go_upto_region 19 with fail
          go_cut [14, 15] (fun s1 s2 wx => ∃ T : Nat, s1 = .pointer (some ⟨T, 0, none⟩) ∧ s2 = .bool true ∧ Two wx T rn rd ∧ w5.heap.size ≤ T ∧ Below w5.heap.size w5 wx)
          case first =>
            clear HXL HP HA HC' HC HC2 HE3 HSP HB3 HML HM HBK HEX HL2 HL4 HKK HBE HBR HU HB4 HFB HBI HN HB5 HM2 u2 u3 u4 u5 v2 v3 y2
            have Z0v4 := Lib.hid v4
            have Z0v5 := Lib.hid v5
            have Z0x2 := Lib.hid x2
            go_region_held3 (fun w' => w'.cell? ⟨b2, o2 + k * 6 + 4, none⟩ = some (.int .i64 (fs)) ∧ w'.cell? ⟨b2, o2 + k * 6 + 5, none⟩ = some (.int .i64 (ft)) ∧ w'.cell? ⟨w.heap.size, 2, none⟩ = some (.int .i64 (j)))
              (first | with_reducible exact ⟨v4, v5, x2⟩ | (refine ⟨?_, ?_, ?_⟩ <;> (repeat (first | (with_reducible assumption) | (with_reducible refine cd ?_) | (with_reducible refine ca ?_ (by first | omega | (simp <;> omega)) _) | (with_reducible refine cs ?_ (by first | omega | (simp <;> omega)) _)))))
              (first | (go_at_call 21; (with_reducible refine (HM1.out _).mono ?_); rintro e wq2 ⟨rfl, bq2⟩; have BQ2 : Below w5.heap.size w5 wq2 := Below.trans (by repeat (first | (with_reducible refine Below.drew ?_) | (with_reducible refine below_drewN ?_ _) | (with_reducible refine Below.alloc ?_ ?_ _) | (with_reducible refine Below.setCell ?_ ?_ _) | (with_reducible assumption) | (with_reducible exact Below.refl _ _) | omega | (simp <;> omega))) (bq2.mono (by first | omega | (simp <;> omega))); have hq2 := BQ2.size; have hr2 := bq2.size; (try simp at hr2); have v4 := (BQ2.cell (p := ⟨b2, o2 + k * 6 + 4, none⟩) hbr2).trans Z0v4.out; have v5 := (BQ2.cell (p := ⟨b2, o2 + k * 6 + 5, none⟩) hbr2).trans Z0v5.out; have x2 := (BQ2.cell (p := ⟨w.heap.size, 2, none⟩) lx).trans Z0x2.out; (try (have TB2_0 : Two wq2 (w5.heap.size) 0 0 := (by first | ((repeat (first | (with_reducible assumption) | (with_reducible exact Two.new _ _ _ _) | (with_reducible exact two_new1 _ _ _ _ _) | (with_reducible refine Two.put (x := 0) (y := 0) ?_ _ _) | (with_reducible refine Two.drew ?_) | ((with_reducible refine two_at _ _ _ ?_); (simp; done)) | (with_reducible refine Two.alloc ?_ _) | (with_reducible refine two_below bq1 ?_) | (with_reducible refine two_below bq2 ?_) | (with_reducible refine Two.set ?_ (by first | omega | (simp <;> omega)) _))); done) | fail); have TH2_0 := Lib.hid TB2_0; obtain ⟨tc2_0, td2_0, tf2_0, tg2_0, tl2_0⟩ := TB2_0; have TB2_0 := TH2_0.out)); (try (have TB2_1 : Two wq2 (wq1.heap.size) 0 0 := (by first | ((repeat (first | (with_reducible assumption) | (with_reducible exact Two.new _ _ _ _) | (with_reducible exact two_new1 _ _ _ _ _) | (with_reducible refine Two.put (x := 0) (y := 0) ?_ _ _) | (with_reducible refine Two.drew ?_) | ((with_reducible refine two_at _ _ _ ?_); (simp; done)) | (with_reducible refine Two.alloc ?_ _) | (with_reducible refine two_below bq1 ?_) | (with_reducible refine two_below bq2 ?_) | (with_reducible refine Two.set ?_ (by first | omega | (simp <;> omega)) _))); done) | fail); have TH2_1 := Lib.hid TB2_1; obtain ⟨tc2_1, td2_1, tf2_1, tg2_1, tl2_1⟩ := TB2_1; have TB2_1 := TH2_1.out)); skip) | (go_at_call 19; (with_reducible refine (HW1.out _).mono ?_); rintro e wq1 ⟨rfl, bq1⟩; have BQ1 : Below w5.heap.size w5 wq1 := Below.trans (by repeat (first | (with_reducible refine Below.drew ?_) | (with_reducible refine below_drewN ?_ _) | (with_reducible refine Below.alloc ?_ ?_ _) | (with_reducible refine Below.setCell ?_ ?_ _) | (with_reducible assumption) | (with_reducible exact Below.refl _ _) | omega | (simp <;> omega))) (bq1.mono (by first | omega | (simp <;> omega))); have hq1 := BQ1.size; have hr1 := bq1.size; (try simp at hr1); have v4 := (BQ1.cell (p := ⟨b2, o2 + k * 6 + 4, none⟩) hbr2).trans Z0v4.out; have v5 := (BQ1.cell (p := ⟨b2, o2 + k * 6 + 5, none⟩) hbr2).trans Z0v5.out; have x2 := (BQ1.cell (p := ⟨w.heap.size, 2, none⟩) lx).trans Z0x2.out; (try (have TB1_0 : Two wq1 (w5.heap.size) 0 0 := (by first | ((repeat (first | (with_reducible assumption) | (with_reducible exact Two.new _ _ _ _) | (with_reducible exact two_new1 _ _ _ _ _) | (with_reducible refine Two.put (x := 0) (y := 0) ?_ _ _) | (with_reducible refine Two.drew ?_) | ((with_reducible refine two_at _ _ _ ?_); (simp; done)) | (with_reducible refine Two.alloc ?_ _) | (with_reducible refine two_below bq1 ?_) | (with_reducible refine two_below bq2 ?_) | (with_reducible refine Two.set ?_ (by first | omega | (simp <;> omega)) _))); done) | fail); have TH1_0 := Lib.hid TB1_0; obtain ⟨tc1_0, td1_0, tf1_0, tg1_0, tl1_0⟩ := TB1_0; have TB1_0 := TH1_0.out)); skip))
            all_goals go_wp2_with fail
            all_goals go_meet
            all_goals (refine ⟨_, rfl, rfl, ?_, ?_, ?_⟩)
            all_goals first | ((repeat (first | (with_reducible refine Below.drew ?_) | (with_reducible refine below_drewN ?_ _) | (with_reducible refine Below.alloc ?_ ?_ _) | (with_reducible refine Below.setCell ?_ ?_ _) | (with_reducible assumption) | (with_reducible exact Below.refl _ _) | omega | (simp <;> omega))); done) | ((repeat (first | (with_reducible assumption) | (with_reducible exact Two.new _ _ _ _) | (with_reducible exact two_new1 _ _ _ _ _) | (with_reducible refine Two.put (x := 0) (y := 0) ?_ _ _) | (with_reducible refine Two.drew ?_) | ((with_reducible refine two_at _ _ _ ?_); (simp; done)) | (with_reducible refine Two.alloc ?_ _) | (with_reducible refine two_below bq1 ?_) | (with_reducible refine two_below bq2 ?_) | (with_reducible refine Two.set ?_ (by first | omega | (simp <;> omega)) _))); done) | (trace_state; fail)
          case rest =>
            obtain ⟨Tw6, rfl, rfl, Tw6B, hw6, bw6⟩ := hcut
            obtain ⟨w6, rfl⟩ : ∃ x : World, x = wc := ⟨_, rfl⟩
            have hlx : w.heap.size < w5.heap.size := lx
            have u2 := (bw6.cell (p := ⟨b, o + i * 6 + 2, none⟩) hbr).trans u2
            have u3 := (bw6.cell (p := ⟨b, o + i * 6 + 3, none⟩) hbr).trans u3
            have u4 := (bw6.cell (p := ⟨b, o + i * 6 + 4, none⟩) hbr).trans u4
            have u5 := (bw6.cell (p := ⟨b, o + i * 6 + 5, none⟩) hbr).trans u5
            have v2 := (bw6.cell (p := ⟨b2, o2 + k * 6 + 2, none⟩) hbr2).trans v2
            have v3 := (bw6.cell (p := ⟨b2, o2 + k * 6 + 3, none⟩) hbr2).trans v3
            have y2 := (bw6.cell (p := ⟨w.heap.size + 1, 2, none⟩) ly).trans y2
            have hbr : b < w6.heap.size := Nat.lt_of_lt_of_le hbr bw6.size
            have hbr2 : b2 < w6.heap.size := Nat.lt_of_lt_of_le hbr2 bw6.size
            have hly : w.heap.size + 1 < w6.heap.size := Nat.lt_of_lt_of_le ly bw6.size
            have HB6 := Lib.hid (HB5.out.trans (bw6.mono HB5.out.size))
            have HT6 := Lib.hid Tw6B
            have hT6 := Tw6B.2.2.2.2
            clear bw6 Tw6B v4 v5 x2 lx hlx ly HW1 HM1 HB5
            go_wp2_with fail
            go_upto_region 20 with fail
            go_cut [16, 17] (fun s1 s2 wx => ∃ T : Nat, s1 = .pointer (some ⟨T, 0, none⟩) ∧ s2 = .bool true ∧ Two wx T rn rd ∧ w6.heap.size ≤ T ∧ Below w6.heap.size w6 wx)
            case first =>
              clear HXL HP HA HC' HC HC2 HE3 HSP HB3 HML HM HBK HEX HL2 HL4 HKK HBE HBR HU HB4 HFB HBI HN HB6 HT6 u2 u3 v2 v3
              have Z0u4 := Lib.hid u4
              have Z0u5 := Lib.hid u5
              have Z0y2 := Lib.hid y2
              go_region_held3 (fun w' => w'.cell? ⟨b, o + i * 6 + 4, none⟩ = some (.int .i64 (es)) ∧ w'.cell? ⟨b, o + i * 6 + 5, none⟩ = some (.int .i64 (et)) ∧ w'.cell? ⟨w.heap.size + 1, 2, none⟩ = some (.int .i64 (j')))
                (first | with_reducible exact ⟨u4, u5, y2⟩ | (refine ⟨?_, ?_, ?_⟩ <;> (repeat (first | (with_reducible assumption) | (with_reducible refine cd ?_) | (with_reducible refine ca ?_ (by first | omega | (simp <;> omega)) _) | (with_reducible refine cs ?_ (by first | omega | (simp <;> omega)) _)))))
                (first | (go_at_call 21; (with_reducible refine (HM2.out _).mono ?_); rintro e wq2 ⟨rfl, bq2⟩; have BQ2 : Below w6.heap.size w6 wq2 := Below.trans (by repeat (first | (with_reducible refine Below.drew ?_) | (with_reducible refine below_drewN ?_ _) | (with_reducible refine Below.alloc ?_ ?_ _) | (with_reducible refine Below.setCell ?_ ?_ _) | (with_reducible assumption) | (with_reducible exact Below.refl _ _) | omega | (simp <;> omega))) (bq2.mono (by first | omega | (simp <;> omega))); have hq2 := BQ2.size; have hr2 := bq2.size; (try simp at hr2); have u4 := (BQ2.cell (p := ⟨b, o + i * 6 + 4, none⟩) hbr).trans Z0u4.out; have u5 := (BQ2.cell (p := ⟨b, o + i * 6 + 5, none⟩) hbr).trans Z0u5.out; have y2 := (BQ2.cell (p := ⟨w.heap.size + 1, 2, none⟩) hly).trans Z0y2.out; (try (have TB2_0 : Two wq2 (w6.heap.size) 0 0 := (by first | ((repeat (first | (with_reducible assumption) | (with_reducible exact Two.new _ _ _ _) | (with_reducible exact two_new1 _ _ _ _ _) | (with_reducible refine Two.put (x := 0) (y := 0) ?_ _ _) | (with_reducible refine Two.drew ?_) | ((with_reducible refine two_at _ _ _ ?_); (simp; done)) | (with_reducible refine Two.alloc ?_ _) | (with_reducible refine two_below bq1 ?_) | (with_reducible refine two_below bq2 ?_) | (with_reducible refine Two.set ?_ (by first | omega | (simp <;> omega)) _))); done) | fail); have TH2_0 := Lib.hid TB2_0; obtain ⟨tc2_0, td2_0, tf2_0, tg2_0, tl2_0⟩ := TB2_0; have TB2_0 := TH2_0.out)); (try (have TB2_1 : Two wq2 (wq1.heap.size) 0 0 := (by first | ((repeat (first | (with_reducible assumption) | (with_reducible exact Two.new _ _ _ _) | (with_reducible exact two_new1 _ _ _ _ _) | (with_reducible refine Two.put (x := 0) (y := 0) ?_ _ _) | (with_reducible refine Two.drew ?_) | ((with_reducible refine two_at _ _ _ ?_); (simp; done)) | (with_reducible refine Two.alloc ?_ _) | (with_reducible refine two_below bq1 ?_) | (with_reducible refine two_below bq2 ?_) | (with_reducible refine Two.set ?_ (by first | omega | (simp <;> omega)) _))); done) | fail); have TH2_1 := Lib.hid TB2_1; obtain ⟨tc2_1, td2_1, tf2_1, tg2_1, tl2_1⟩ := TB2_1; have TB2_1 := TH2_1.out)); skip) | (go_at_call 19; (with_reducible refine (HW2.out _).mono ?_); rintro e wq1 ⟨rfl, bq1⟩; have BQ1 : Below w6.heap.size w6 wq1 := Below.trans (by repeat (first | (with_reducible refine Below.drew ?_) | (with_reducible refine below_drewN ?_ _) | (with_reducible refine Below.alloc ?_ ?_ _) | (with_reducible refine Below.setCell ?_ ?_ _) | (with_reducible assumption) | (with_reducible exact Below.refl _ _) | omega | (simp <;> omega))) (bq1.mono (by first | omega | (simp <;> omega))); have hq1 := BQ1.size; have hr1 := bq1.size; (try simp at hr1); have u4 := (BQ1.cell (p := ⟨b, o + i * 6 + 4, none⟩) hbr).trans Z0u4.out; have u5 := (BQ1.cell (p := ⟨b, o + i * 6 + 5, none⟩) hbr).trans Z0u5.out; have y2 := (BQ1.cell (p := ⟨w.heap.size + 1, 2, none⟩) hly).trans Z0y2.out; (try (have TB1_0 : Two wq1 (w6.heap.size) 0 0 := (by first | ((repeat (first | (with_reducible assumption) | (with_reducible exact Two.new _ _ _ _) | (with_reducible exact two_new1 _ _ _ _ _) | (with_reducible refine Two.put (x := 0) (y := 0) ?_ _ _) | (with_reducible refine Two.drew ?_) | ((with_reducible refine two_at _ _ _ ?_); (simp; done)) | (with_reducible refine Two.alloc ?_ _) | (with_reducible refine two_below bq1 ?_) | (with_reducible refine two_below bq2 ?_) | (with_reducible refine Two.set ?_ (by first | omega | (simp <;> omega)) _))); done) | fail); have TH1_0 := Lib.hid TB1_0; obtain ⟨tc1_0, td1_0, tf1_0, tg1_0, tl1_0⟩ := TB1_0; have TB1_0 := TH1_0.out)); skip))
              all_goals go_wp2_with fail
              all_goals go_meet
              all_goals (refine ⟨_, rfl, rfl, ?_, ?_, ?_⟩)
              all_goals first | ((repeat (first | (with_reducible refine Below.drew ?_) | (with_reducible refine below_drewN ?_ _) | (with_reducible refine Below.alloc ?_ ?_ _) | (with_reducible refine Below.setCell ?_ ?_ _) | (with_reducible assumption) | (with_reducible exact Below.refl _ _) | omega | (simp <;> omega))); done) | ((repeat (first | (with_reducible assumption) | (with_reducible exact Two.new _ _ _ _) | (with_reducible exact two_new1 _ _ _ _ _) | (with_reducible refine Two.put (x := 0) (y := 0) ?_ _ _) | (with_reducible refine Two.drew ?_) | ((with_reducible refine two_at _ _ _ ?_); (simp; done)) | (with_reducible refine Two.alloc ?_ _) | (with_reducible refine two_below bq1 ?_) | (with_reducible refine two_below bq2 ?_) | (with_reducible refine Two.set ?_ (by first | omega | (simp <;> omega)) _))); done) | (trace_state; fail)
            case rest =>
              obtain ⟨Tw7, rfl, rfl, Tw7B, hw7, bw7⟩ := hcut
              obtain ⟨w7, rfl⟩ : ∃ x : World, x = wc := ⟨_, rfl⟩
              obtain ⟨t0, t1, _, _, ht6⟩ := HT6.out.below bw7 hT6
              obtain ⟨t2, t3, _, _, ht7⟩ := Tw7B
              have u2 := (bw7.cell (p := ⟨b, o + i * 6 + 2, none⟩) hbr).trans u2
              have u3 := (bw7.cell (p := ⟨b, o + i * 6 + 3, none⟩) hbr).trans u3
              have v2 := (bw7.cell (p := ⟨b2, o2 + k * 6 + 2, none⟩) hbr2).trans v2
              have v3 := (bw7.cell (p := ⟨b2, o2 + k * 6 + 3, none⟩) hbr2).trans v3
              have hbr : b < w7.heap.size := Nat.lt_of_lt_of_le hbr bw7.size
              have hbr2 : b2 < w7.heap.size := Nat.lt_of_lt_of_le hbr2 bw7.size
              have HB7 := Lib.hid (HB6.out.trans (bw7.mono HB6.out.size))
              clear bw7 u4 u5 y2 HW2 HM2 HB6 HT6
              go_wp2_with fail
              go_upto_region 21 with fail
              have f0 : ∀ p : Later w7.heap.size w7, p.W.cell? ⟨b, o + i * 6 + 2, none⟩ = some (.int .i64 (ep)) := Later.cell u2 hbr
              have f1 : ∀ p : Later w7.heap.size w7, p.W.cell? ⟨b, o + i * 6 + 3, none⟩ = some (.int .i64 (fq)) := Later.cell u3 hbr
              have f2 : ∀ p : Later w7.heap.size w7, p.W.cell? ⟨b2, o2 + k * 6 + 2, none⟩ = some (.int .i64 (-ep)) := Later.cell v2 hbr2
              have f3 : ∀ p : Later w7.heap.size w7, p.W.cell? ⟨b2, o2 + k * 6 + 3, none⟩ = some (.int .i64 (fq)) := Later.cell v3 hbr2
              have f4 : ∀ p : Later w7.heap.size w7, p.W.cell? ⟨Tw6, 0, none⟩ = some (.int .i64 rn) := Later.cell t0 ht6
              have f5 : ∀ p : Later w7.heap.size w7, p.W.cell? ⟨Tw6, 1, none⟩ = some (.int .i64 rd) := Later.cell t1 ht6
              have f6 : ∀ p : Later w7.heap.size w7, p.W.cell? ⟨Tw7, 0, none⟩ = some (.int .i64 rn) := Later.cell t2 ht7
              have f7 : ∀ p : Later w7.heap.size w7, p.W.cell? ⟨Tw7, 1, none⟩ = some (.int .i64 rd) := Later.cell t3 ht7
              refine Later.wp_region_later (w7.heap.size) (by kernel_rfl) (by kernel_rfl) ?_
              repeat (first | go_big_quiet_step ((go_at_call 18; with_reducible exact later_gives (Nat.le_refl _) (HN.out _))) | quiet_step ((go_at_call 18; with_reducible exact later_gives (Nat.le_refl _) (HN.out _))))
              refine wpQuiet_nil ?_
              rintro w8 ⟨q8, hq8⟩
              have b8 := q8.h
              rw [← hq8] at b8
              clear hq8 q8
              have B8 := HB7.out.trans (b8.mono HB7.out.size)
              clear f0 f1 f2 f3 f4 f5 f6 f7
              go_wp2
              go_roundw
              case rel => exact ⟨k + 1, true, by omega, by go_num, rfl, fun _ => rfl, B8⟩
              case measure => simp [intOf]; omega
        · obtain rfl : k = m := by omega
          obtain rfl := hfb hKm
          have B9 := HBR.out.trans (hB.mono HBR.out.size)
          go_wp2
          go_roundw
          case rel => exact ⟨i + 1, by omega, by go_num, B9⟩
          case measure => simp [intOf]; omega
    · obtain rfl : i = m := by omega
      go_wp2
      go_ret
      exact ⟨rfl, HB3.out.trans ((BZ.trans (hB.mono BZ.size)).mono HB3.out.size)⟩
end Go.Proofs.YtdejlinldocfjaaDoor.WFnSplitBack
