/-
  The walk of the law FnSplitSums.
-/
import Derived.Test.YtpollgibgphipaaDoorSplitLaws
import Derived.Test.YtpollgibgphipaaDoorRowsSplit
import Derived.Test.YtpollgibgphipaaDoorDrawSpl
import Derived.Test.YtpollgibgphipaaDoorSplI
import Derived.Test.YtpollgibgphipaaDoorSplS
import Derived.Test.YtpollgibgphipaaDoorSplD
import Derived.BigQuiet
import Derived.Test.YtpollgibgphipaaDoorSplE
import Derived.Test.YtpollgibgphipaaDoorSplitSum
import Derived.Test.YtpollgibgphipaaDoorSplitKind
namespace Go.Proofs.YtpollgibgphipaaDoor.WFnSplitSums
open Go.RowKit Go.Proofs.YtpollgibgphipaaDoor.RatP Go.Proofs.YtpollgibgphipaaDoor.ChoP Go.Proofs.YtpollgibgphipaaDoor.Rat Go.Proofs.YtpollgibgphipaaDoor.Spin Go.Proofs.YtpollgibgphipaaDoor.Row Go.Proofs.YtpollgibgphipaaDoor.Later Go.Proofs.YtpollgibgphipaaDoor.SplitPlain Go.Proofs.YtpollgibgphipaaDoor.SplitDef Go.Proofs.YtpollgibgphipaaDoor.SplitP Go.Proofs.YtpollgibgphipaaDoor.Fac Go.Proofs.YtpollgibgphipaaDoor.FacI Go.Proofs.YtpollgibgphipaaDoor.SplitLaws Go.Proofs.YtpollgibgphipaaDoor.Two Go.Proofs.YtpollgibgphipaaDoor.Rd Go.Proofs.YtpollgibgphipaaDoor.DrawSpl Go.Proofs.YtpollgibgphipaaDoor.SplS Go.Proofs.YtpollgibgphipaaDoor.SplI Go.Proofs.YtpollgibgphipaaDoor.SplD Go.Proofs.YtpollgibgphipaaDoor.SplE Go.Proofs.YtpollgibgphipaaDoor.SplitSum Go.Proofs.YtpollgibgphipaaDoor.SplitKind
set_option linter.unusedVariables false
set_option linter.unusedSimpArgs false

set_option maxRecDepth 100000 in
set_option maxHeartbeats 8000000 in
theorem fnSplitSums (a : Option Addr) (n c : Nat) (zs : List Int) (w0 : World) (hE : Errs w0) (h : IsRow .u8 w0 a n c zs) :
    Calls Tryd.prog 6 #[.slice a n c] w0 (Yes w0) := by
  have HO := Lib.hid (drawSplitOf a n c zs w0 h)
  have HE := Lib.hid hE
  clear h hE
  by_cases hn : 1048576 < n
  · go_enter Tryd.func6, Tryd.ntmps6
    go_wp2_with fail
    all_goals go_ret
    all_goals exact ⟨rfl, Below.refl _ _⟩
  have hd1 : decide ((1048576 : Int) < (n : Int)) = false := decide_eq_false (by omega)
  go_enter Tryd.func6, Tryd.ntmps6
  go_wp2_with fail
  refine HO.out.mono ?_
  rintro e w ⟨s, l, j, s', l', j', rfl, B0⟩
  clear HO
  cases hs : splitOk s l j s' l' j'
  · have HI := Lib.hid (fun W (_ : Below w.heap.size w W) => iSplitOf_no s l j s' l' j' W hs)
    have HS := Lib.hid (fun W => sSplitOf_no s l j s' l' j' W hs)
    have HSS := Lib.hid (fun W v1 v2 h1 h2 => RowsSplit.sameSplits [] v1 v2 W h1 h2)
    clear hs HE
    have LV0 := lv6_two w s l j s' l' j'
    have BZ0 : Below w.heap.size w ((w.alloc (.cells #[.int .i64 s, .int .i64 l, .int .i64 j] 26)).alloc (.cells #[.int .i64 s', .int .i64 l', .int .i64 j'] 26)) := (by repeat (first | (with_reducible refine Below.drew ?_) | (with_reducible refine below_drewN ?_ _) | (with_reducible refine Below.alloc ?_ ?_ _) | (with_reducible refine Below.setCell ?_ ?_ _) | (with_reducible assumption) | (with_reducible exact Below.refl _ _) | omega | (simp <;> omega)))
    have hz0 : ((w.alloc (.cells #[.int .i64 s, .int .i64 l, .int .i64 j] 26)).alloc (.cells #[.int .i64 s', .int .i64 l', .int .i64 j'] 26)).heap.size = w.heap.size + 2 := by simp
    have HZ0 := Lib.hid hz0
    clear hz0
    go_wp2_with fail
    (with_reducible refine (HI.out _ BZ0).mono ?_)
    rintro e w1 ⟨v1, rfl, O1, b1⟩
    have B1 := BZ0.trans (b1.mono BZ0.size)
    have LV1 := LV0.below b1 (by have := HZ0.out; omega) (by have := HZ0.out; omega)
    have S1 := Sees.of_own O1
    clear b1 LV0 BZ0 HZ0 O1
    have HL1 := Lib.hid LV1
    obtain ⟨x0, x1, x2, y0, y1, y2, lx, ly⟩ := LV1
    go_wp2_with fail
    (with_reducible refine (HS.out _).mono ?_)
    rintro e w2 ⟨v2, rfl, O2, b2⟩
    have B2 := B1.trans (b2.mono B1.size)
    have S1 := S1.below b2 (Nat.le_refl _)
    have S2 := Sees.of_own O2
    have HL2 := Lib.hid (HL1.out.below b2 lx ly)
    clear b2 B1 O2 HL1 x0 x1 x2 y0 y1 y2 lx ly
    go_wp2_with fail
    (with_reducible refine (HSS.out _ _ _ S1 S2).mono ?_)
    rintro e w3 ⟨rfl, b3⟩
    have B3 := B2.trans (b3.mono B2.size)
    have S1 := S1.below b3 (Nat.le_refl _)
    have S2 := S2.below b3 (Nat.le_refl _)
    clear b3 B2
    go_wp2_with fail
    (with_reducible refine (HSS.out _ _ _ S1 S2).mono ?_)
    rintro e w4 ⟨rfl, b4⟩
    have B4 := B3.trans (b4.mono B3.size)
    go_wp2
    go_ret
    exact ⟨rfl, B0.trans (B4.mono B0.size)⟩
  have P := (splitOk_pair hs).pair
  have HEW := Lib.hid (HE.out.below B0 (by have := HE.out; obtain ⟨_, _, _, h⟩ := this; exact h))
  have HI := Lib.hid (fun W (hB : Below w.heap.size w W) => iSplitOf_yes s l j s' l' j' W hs (HEW.out.below hB (by have := HEW.out; obtain ⟨_, _, _, h⟩ := this; exact h)))
  have HS := Lib.hid (fun W => sSplitOf_yes s l j s' l' j' W hs)
  have HSP := Lib.hid hs
  obtain ⟨A, hA⟩ : ∃ A, A = gn s l j := ⟨_, rfl⟩
  obtain ⟨C, hC⟩ : ∃ C, C = gn s' l' j' := ⟨_, rfl⟩
  obtain ⟨xs, hxs⟩ : ∃ xs, xs = splitS s l j s' l' j' := ⟨_, rfl⟩
  have hxl : xs = splitL j j' A C := by rw [hxs, hA, hC]; rfl
  rw [← hxs] at HI HS
  rw [← hA, ← hC] at P
  have HA := Lib.hid hA
  have HC' := Lib.hid hC
  have HXL := Lib.hid hxl
  have HSS := Lib.hid (fun W v1 v2 h1 h2 => RowsSplit.sameSplits xs v1 v2 W h1 h2)
  have hlen := P.len_is
  rw [← hxl] at hlen
  have HP := Lib.hid P
  clear hs HE hA hC hxs hxl
  have LV0 := lv6_two w s l j s' l' j'
  have BZ0 : Below w.heap.size w ((w.alloc (.cells #[.int .i64 s, .int .i64 l, .int .i64 j] 26)).alloc (.cells #[.int .i64 s', .int .i64 l', .int .i64 j'] 26)) := (by repeat (first | (with_reducible refine Below.drew ?_) | (with_reducible refine below_drewN ?_ _) | (with_reducible refine Below.alloc ?_ ?_ _) | (with_reducible refine Below.setCell ?_ ?_ _) | (with_reducible assumption) | (with_reducible exact Below.refl _ _) | omega | (simp <;> omega)))
  have hz0 : ((w.alloc (.cells #[.int .i64 s, .int .i64 l, .int .i64 j] 26)).alloc (.cells #[.int .i64 s', .int .i64 l', .int .i64 j'] 26)).heap.size = w.heap.size + 2 := by simp
  have HZ0 := Lib.hid hz0
  clear hz0
  go_wp2_with fail
  (with_reducible refine (HI.out _ BZ0).mono ?_)
  rintro e w1 ⟨v1, rfl, O1, b1⟩
  have B1 := BZ0.trans (b1.mono BZ0.size)
  have LV1 := LV0.below b1 (by have := HZ0.out; omega) (by have := HZ0.out; omega)
  have S1 := Sees.of_own O1
  clear b1 LV0 BZ0 HZ0 O1
  have HL1 := Lib.hid LV1
  obtain ⟨x0, x1, x2, y0, y1, y2, lx, ly⟩ := LV1
  go_wp2_with fail
  (with_reducible refine (HS.out _).mono ?_)
  rintro e w2 ⟨v2, rfl, O2, b2⟩
  have B2 := B1.trans (b2.mono B1.size)
  have S1 := S1.below b2 (Nat.le_refl _)
  have S2 := Sees.of_own O2
  have HL2 := Lib.hid (HL1.out.below b2 lx ly)
  clear b2 B1 O2 HL1 x0 x1 x2 y0 y1 y2 lx ly
  go_wp2_with fail
  (with_reducible refine (HSS.out _ _ _ S1 S2).mono ?_)
  rintro e w3 ⟨rfl, b3⟩
  have B3 := B2.trans (b3.mono B2.size)
  have HL3 := Lib.hid (HL2.out.below b3 HL2.out.2.2.2.2.2.2.1 HL2.out.2.2.2.2.2.2.2)
  have S1 := S1.below b3 (Nat.le_refl _)
  clear b3 B2 S2 HL2 HSS
  obtain ⟨m, hm⟩ : ∃ m, m = xs.length := ⟨_, rfl⟩
  have HM := Lib.hid hm
  rw [← hm] at hlen
  obtain ⟨hm19, hm0, hml⟩ := hlen
  have HML := Lib.hid hml
  have HS3 := Lib.hid S1
  obtain ⟨b, o, c', rfl, hnc, hcm, hb, hcell⟩ : ∃ b o c', v1 = .slice (some ⟨b, o, none⟩) m c' ∧ m ≤ c' ∧ c' ≤ maxLen ∧ b < w3.heap.size ∧ ∀ i, i < xs.length * 6 → w3.cell? ⟨b, o + i, none⟩ = (xs.flatMap encSp)[i]? := by
    rcases S1.2 with ⟨h0, _⟩ | ⟨b, o, c', rfl, h1, h2, h3, h4⟩
    · omega
    · exact ⟨b, o, c', by rw [hm], by omega, h2, h3, h4⟩
  unfold maxLen at hcm
  have HC := Lib.hid hcell
  have B3' := B0.trans (B3.mono B0.size)
  have hw3 : 1 < w3.heap.size := Nat.lt_of_lt_of_le (by have := HEW.out; obtain ⟨_, _, _, h⟩ := this; exact h) B3.size
  have HB3 := Lib.hid B3'
  have HE3 := Lib.hid (HEW.out.below B3 (by have := HEW.out; obtain ⟨_, _, _, h⟩ := this; exact h))
  clear hm hcell S1 hml P HI HS HEW B0 B3 B3'
  have hx6 := HP.out.hx
  have hkk : (mkR (j + 1) 3).ok = true ∧ ∀ kd : Int, kd = -2 ∨ kd = 0 ∨ kd = 2 → sumL (kindOf xs kd) = mkR (j + 1) 3 := by
    have hx := HXL.out
    have hP := HP.out
    clear HXL HC HM HS3
    subst hx
    exact ⟨(p_kinds hP (m := 0) (.inr (.inl rfl))).2, fun kd h => (p_kinds hP h).1⟩
  have hR := fun W => iRatOf (j + 1) 3 W (by omega) (by omega)
  generalize mkR (j + 1) 3 = r at *
  obtain ⟨rn, rd, rk⟩ := r
  obtain ⟨hrk, hks⟩ := hkk
  simp only at hrk
  subst hrk
  unfold roV at hR
  have HR := Lib.hid hR
  have HKS := Lib.hid hks
  have hw1 : IntKind.i64.wrap (j + 1) = j + 1 := IntWalk.i64_in _ (by omega)
  obtain ⟨j0, j6⟩ := hx6
  have hBz := Below.refl w3.heap.size w3
  have HBB := Lib.hid hBz
  clear hR hks hBz
  obtain ⟨x0, x1, x2, y0, y1, y2, lx, ly⟩ := HL3.out.below HBB.out HL3.out.2.2.2.2.2.2.1 HL3.out.2.2.2.2.2.2.2
  go_wp2_with fail
  (with_reducible refine (HR.out _).mono ?_)
  rintro e wa21 ⟨rfl, ba⟩
  replace HBB := Lib.hid (HBB.out.trans (ba.mono HBB.out.size))
  clear ba x0 x1 x2 y0 y1 y2 lx ly
  go_upto_region 9 with fail
  have gHTR := HBB.out.size
  obtain ⟨wb21, hwn⟩ : ∃ W : World, W = wa21.alloc (.cells #[.int .i64 (rn), .int .i64 (rd)] 34) := ⟨_, rfl⟩
  have HTR : Hid (Two wb21 wa21.heap.size (rn) (rd)) := Lib.hid (by rw [hwn]; exact Two.new _ _ _ _)
  replace HBB : Hid (Below w3.heap.size w3 wb21) := Lib.hid (by rw [hwn]; exact HBB.out.alloc HBB.out.size _)
  rw [← hwn]
  obtain ⟨bHTR, hbn⟩ : ∃ x, x = wa21.heap.size := ⟨_, rfl⟩
  rw [← hbn] at HTR gHTR ⊢
  clear hwn hbn
  have HKD := Lib.hid (fun (kd : Int) W (hB : Below wb21.heap.size wb21 W) => iSplitKind xs kd _ W ((HS3.out.below HBB.out (Nat.le_refl _)).below hB (Nat.le_refl _)) (by have := HM.out; omega))
  have HSM := Lib.hid (fun (kd : Int) v W (h : Sees W 6 v (kindOf xs kd).length ((kindOf xs kd).flatMap encSp)) => iSplitSum (kindOf xs kd) v W h (by have := kinds_len xs kd; have := HM.out; omega))
  clear HR hw1
  go_wp2
  go_loopw [11] (fun i wr => ∃ (q : Nat) (kd : Int), q ≤ 3 ∧ kd = -2 + 2 * (q : Int) ∧ i = .int .i64 kd ∧ Below wb21.heap.size wb21 wr) (fun i _ => (4 - intOf i).toNat)
  case atStart => exact ⟨0, -2, by omega, by omega, rfl, Below.refl _ _⟩
  case round =>
    obtain ⟨q, kd, hq, hkd, rfl, hB⟩ := hrel
    have HBR := Lib.hid hB
    have HTQ := Lib.hid (HTR.out.below hB HTR.out.2.2.2.2)
    clear hB
    by_cases hlt : q < 3
    · have hk2 : kd ≤ 2 := by omega
      have hk1 : -2 ≤ kd := by omega
      have hks := HKS.out kd (by omega)
      have hS := HSM.out kd
      rw [hks] at hS
      unfold roV at hS
      have HSS := Lib.hid hS
      have HKX := Lib.hid (HKD.out kd)
      have HKQ := Lib.hid hkd
      clear hS hks hkd
      go_wp2_with fail
      (with_reducible refine (HKX.out _ HBR.out).mono ?_)
      rintro e w5 ⟨v5, rfl, O5, b5⟩
      have HO5 := Lib.hid O5
      have HB5 := Lib.hid (HBR.out.trans (b5.mono HBR.out.size))
      replace HTQ := Lib.hid (HTQ.out.below b5 HTQ.out.2.2.2.2)
      clear O5 b5
      go_wp2_with fail
      (with_reducible refine (HSS.out _ _ (Sees.of_own HO5.out)).mono ?_)
      rintro e w6 ⟨rfl, b6⟩
      have HB6 := Lib.hid (HB5.out.trans (b6.mono HB5.out.size))
      replace HTQ := Lib.hid (HTQ.out.below b6 HTQ.out.2.2.2.2)
      clear b6 HB5 HO5
      go_upto_region 13 with fail
      obtain ⟨w7, hw7⟩ : ∃ W : World, W = w6.alloc (.cells #[.int .i64 rn, .int .i64 rd] 34) := ⟨_, rfl⟩
      have TN : Two w7 w6.heap.size rn rd := by rw [hw7]; exact Two.new _ _ _ _
      have TQ : Two w7 bHTR rn rd := by rw [hw7]; exact HTQ.out.alloc _
      have B7 : Below wb21.heap.size wb21 w7 := by rw [hw7]; exact HB6.out.alloc HB6.out.size _
      rw [← hw7]
      obtain ⟨t0, t1, _, _, t4⟩ := TN
      obtain ⟨s0, s1, _, _, s4⟩ := TQ
      have HB7 := Lib.hid B7
      clear hw7 HB6 HTQ B7
      go_wp2
      go_roundw
      case rel => exact ⟨q + 1, kd + 2, by omega, by have := HKQ.out; omega, by go_num, HB7.out⟩
      case measure => simp [intOf]; omega
    · have hk2 : ¬ kd ≤ 2 := by omega
      have hk4 : kd ≤ 4 := by omega
      have hk3 : (2 : Int) < kd := by omega
      clear hkd
      go_wp2
      go_ret
      exact ⟨rfl, HB3.out.trans ((HBB.out.trans (HBR.out.mono HBB.out.size)).mono HB3.out.size)⟩
end Go.Proofs.YtpollgibgphipaaDoor.WFnSplitSums
