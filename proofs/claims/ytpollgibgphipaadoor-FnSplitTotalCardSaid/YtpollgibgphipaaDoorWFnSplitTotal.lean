/-
  The walk of the law FnSplitTotal.
-/
import Derived.Test.YtpollgibgphipaaDoorSplitLaws
import Derived.Test.YtpollgibgphipaaDoorRowsSplit
import Derived.Test.YtpollgibgphipaaDoorDrawSpl
import Derived.Test.YtpollgibgphipaaDoorSplI
import Derived.Test.YtpollgibgphipaaDoorSplS
import Derived.Test.YtpollgibgphipaaDoorSplD
import Derived.BigQuiet
import Derived.Test.YtpollgibgphipaaDoorSplE
import Derived.Test.YtpollgibgphipaaDoorSplitSum
import Derived.Deep.DeepCutAuto
namespace Go.Proofs.YtpollgibgphipaaDoor.WFnSplitTotal
open Go.RowKit Go.Proofs.YtpollgibgphipaaDoor.RatP Go.Proofs.YtpollgibgphipaaDoor.ChoP Go.Proofs.YtpollgibgphipaaDoor.Rat Go.Proofs.YtpollgibgphipaaDoor.Spin Go.Proofs.YtpollgibgphipaaDoor.Row Go.Proofs.YtpollgibgphipaaDoor.Later Go.Proofs.YtpollgibgphipaaDoor.SplitPlain Go.Proofs.YtpollgibgphipaaDoor.SplitDef Go.Proofs.YtpollgibgphipaaDoor.SplitP Go.Proofs.YtpollgibgphipaaDoor.Fac Go.Proofs.YtpollgibgphipaaDoor.FacI Go.Proofs.YtpollgibgphipaaDoor.SplitLaws Go.Proofs.YtpollgibgphipaaDoor.Two Go.Proofs.YtpollgibgphipaaDoor.Rd Go.Proofs.YtpollgibgphipaaDoor.DrawSpl Go.Proofs.YtpollgibgphipaaDoor.SplS Go.Proofs.YtpollgibgphipaaDoor.SplI Go.Proofs.YtpollgibgphipaaDoor.SplD Go.Proofs.YtpollgibgphipaaDoor.SplE Go.Proofs.YtpollgibgphipaaDoor.SplitSum
set_option linter.unusedVariables false
set_option linter.unusedSimpArgs false

set_option maxRecDepth 100000 in
set_option maxHeartbeats 8000000 in
theorem fnSplitTotal (a : Option Addr) (n c : Nat) (zs : List Int) (a2 : Option Addr) (n2 c2 : Nat) (zs2 : List Int) (w0 : World) (hE : Errs w0) (h : IsRow .u8 w0 a n c zs) (h2 : IsRow .u8 w0 a2 n2 c2 zs2) :
    Calls Tryd.prog 5 #[.slice a n c, .slice a2 n2 c2] w0 (Yes w0) := by
  have HO := Lib.hid (drawSplitOf a n c zs w0 h)
  have HE := Lib.hid hE
  clear h hE h2
  by_cases hn : 1048576 < n
  · go_enter Tryd.func5, Tryd.ntmps5
    go_wp2_with fail
    all_goals go_ret
    all_goals exact ⟨rfl, Below.refl _ _⟩
  have hd1 : decide ((1048576 : Int) < (n : Int)) = false := decide_eq_false (by omega)
  by_cases hn2 : 1048576 < n2
  · have hd2 : decide ((1048576 : Int) < (n2 : Int)) = true := decide_eq_true (by omega)
    go_enter Tryd.func5, Tryd.ntmps5
    go_wp2_with fail
    all_goals go_ret
    all_goals exact ⟨rfl, Below.refl _ _⟩
  have hd2 : decide ((1048576 : Int) < (n2 : Int)) = false := decide_eq_false (by omega)
  go_enter Tryd.func5, Tryd.ntmps5
  go_wp2_with fail
  refine HO.out.mono ?_
  rintro e w ⟨s, l, j, s', l', j', rfl, B0⟩
  clear HO
  cases hs : splitOk s l j s' l' j'
  · have HI := Lib.hid (fun W (_ : Below w.heap.size w W) => iSplitOf_no s l j s' l' j' W hs)
    have HS := Lib.hid (fun W => sSplitOf_no s l j s' l' j' W hs)
    have HSS := Lib.hid (fun W v1 v2 h1 h2 => RowsSplit.sameSplits [] v1 v2 W h1 h2)
    clear hs HE
    have LV0 := lv6_two w s l j s' l' j'
    have BZ0 : Below w.heap.size w ((w.alloc (.cells #[.int .i64 s, .int .i64 l, .int .i64 j] 26)).alloc (.cells #[.int .i64 s', .int .i64 l', .int .i64 j'] 26)) := (by repeat (first | (with_reducible refine Below.drew ?_) | (with_reducible refine below_drewN ?_ _) | (with_reducible refine Below.alloc ?_ ?_ _) | (with_reducible refine Below.setCell ?_ ?_ _) | (with_reducible assumption) | (with_reducible exact Below.refl _ _) | omega | (simp <;> omega)))
    have hz0 : ((w.alloc (.cells #[.int .i64 s, .int .i64 l, .int .i64 j] 26)).alloc (.cells #[.int .i64 s', .int .i64 l', .int .i64 j'] 26)).heap.size = w.heap.size + 2 := by simp
    have HZ0 := Lib.hid hz0
    clear hz0
    go_wp2_with fail
    (with_reducible refine (HI.out _ BZ0).mono ?_)
    rintro e w1 ⟨v1, rfl, O1, b1⟩
    have B1 := BZ0.trans (b1.mono BZ0.size)
    have LV1 := LV0.below b1 (by have := HZ0.out; omega) (by have := HZ0.out; omega)
    have S1 := Sees.of_own O1
    clear b1 LV0 BZ0 HZ0 O1
    have HL1 := Lib.hid LV1
    obtain ⟨x0, x1, x2, y0, y1, y2, lx, ly⟩ := LV1
    go_wp2_with fail
    (with_reducible refine (HS.out _).mono ?_)
    rintro e w2 ⟨v2, rfl, O2, b2⟩
    have B2 := B1.trans (b2.mono B1.size)
    have S1 := S1.below b2 (Nat.le_refl _)
    have S2 := Sees.of_own O2
    have HL2 := Lib.hid (HL1.out.below b2 lx ly)
    clear b2 B1 O2 HL1 x0 x1 x2 y0 y1 y2 lx ly
    go_wp2_with fail
    (with_reducible refine (HSS.out _ _ _ S1 S2).mono ?_)
    rintro e w3 ⟨rfl, b3⟩
    have B3 := B2.trans (b3.mono B2.size)
    have S1 := S1.below b3 (Nat.le_refl _)
    have S2 := S2.below b3 (Nat.le_refl _)
    clear b3 B2
    go_wp2_with fail
    (with_reducible refine (HSS.out _ _ _ S1 S2).mono ?_)
    rintro e w4 ⟨rfl, b4⟩
    have B4 := B3.trans (b4.mono B3.size)
    go_wp2
    go_ret
    exact ⟨rfl, B0.trans (B4.mono B0.size)⟩
  have P := (splitOk_pair hs).pair
  have HEW := Lib.hid (HE.out.below B0 (by have := HE.out; obtain ⟨_, _, _, h⟩ := this; exact h))
  have HI := Lib.hid (fun W (hB : Below w.heap.size w W) => iSplitOf_yes s l j s' l' j' W hs (HEW.out.below hB (by have := HEW.out; obtain ⟨_, _, _, h⟩ := this; exact h)))
  have HS := Lib.hid (fun W => sSplitOf_yes s l j s' l' j' W hs)
  have HSP := Lib.hid hs
  obtain ⟨A, hA⟩ : ∃ A, A = gn s l j := ⟨_, rfl⟩
  obtain ⟨C, hC⟩ : ∃ C, C = gn s' l' j' := ⟨_, rfl⟩
  obtain ⟨xs, hxs⟩ : ∃ xs, xs = splitS s l j s' l' j' := ⟨_, rfl⟩
  have hxl : xs = splitL j j' A C := by rw [hxs, hA, hC]; rfl
  rw [← hxs] at HI HS
  rw [← hA, ← hC] at P
  have HA := Lib.hid hA
  have HC' := Lib.hid hC
  have HXL := Lib.hid hxl
  have HSS := Lib.hid (fun W v1 v2 h1 h2 => RowsSplit.sameSplits xs v1 v2 W h1 h2)
  have hlen := P.len_is
  rw [← hxl] at hlen
  have HP := Lib.hid P
  clear hs HE hA hC hxs hxl
  have LV0 := lv6_two w s l j s' l' j'
  have BZ0 : Below w.heap.size w ((w.alloc (.cells #[.int .i64 s, .int .i64 l, .int .i64 j] 26)).alloc (.cells #[.int .i64 s', .int .i64 l', .int .i64 j'] 26)) := (by repeat (first | (with_reducible refine Below.drew ?_) | (with_reducible refine below_drewN ?_ _) | (with_reducible refine Below.alloc ?_ ?_ _) | (with_reducible refine Below.setCell ?_ ?_ _) | (with_reducible assumption) | (with_reducible exact Below.refl _ _) | omega | (simp <;> omega)))
  have hz0 : ((w.alloc (.cells #[.int .i64 s, .int .i64 l, .int .i64 j] 26)).alloc (.cells #[.int .i64 s', .int .i64 l', .int .i64 j'] 26)).heap.size = w.heap.size + 2 := by simp
  have HZ0 := Lib.hid hz0
  clear hz0
  go_wp2_with fail
  (with_reducible refine (HI.out _ BZ0).mono ?_)
  rintro e w1 ⟨v1, rfl, O1, b1⟩
  have B1 := BZ0.trans (b1.mono BZ0.size)
  have LV1 := LV0.below b1 (by have := HZ0.out; omega) (by have := HZ0.out; omega)
  have S1 := Sees.of_own O1
  clear b1 LV0 BZ0 HZ0 O1
  have HL1 := Lib.hid LV1
  obtain ⟨x0, x1, x2, y0, y1, y2, lx, ly⟩ := LV1
  go_wp2_with fail
  (with_reducible refine (HS.out _).mono ?_)
  rintro e w2 ⟨v2, rfl, O2, b2⟩
  have B2 := B1.trans (b2.mono B1.size)
  have S1 := S1.below b2 (Nat.le_refl _)
  have S2 := Sees.of_own O2
  have HL2 := Lib.hid (HL1.out.below b2 lx ly)
  clear b2 B1 O2 HL1 x0 x1 x2 y0 y1 y2 lx ly
  go_wp2_with fail
  (with_reducible refine (HSS.out _ _ _ S1 S2).mono ?_)
  rintro e w3 ⟨rfl, b3⟩
  have B3 := B2.trans (b3.mono B2.size)
  have HL3 := Lib.hid (HL2.out.below b3 HL2.out.2.2.2.2.2.2.1 HL2.out.2.2.2.2.2.2.2)
  have S1 := S1.below b3 (Nat.le_refl _)
  clear b3 B2 S2 HL2 HSS
  obtain ⟨m, hm⟩ : ∃ m, m = xs.length := ⟨_, rfl⟩
  have HM := Lib.hid hm
  rw [← hm] at hlen
  obtain ⟨hm19, hm0, hml⟩ := hlen
  have HML := Lib.hid hml
  have HS3 := Lib.hid S1
  obtain ⟨b, o, c', rfl, hnc, hcm, hb, hcell⟩ : ∃ b o c', v1 = .slice (some ⟨b, o, none⟩) m c' ∧ m ≤ c' ∧ c' ≤ maxLen ∧ b < w3.heap.size ∧ ∀ i, i < xs.length * 6 → w3.cell? ⟨b, o + i, none⟩ = (xs.flatMap encSp)[i]? := by
    rcases S1.2 with ⟨h0, _⟩ | ⟨b, o, c', rfl, h1, h2, h3, h4⟩
    · omega
    · exact ⟨b, o, c', by rw [hm], by omega, h2, h3, h4⟩
  unfold maxLen at hcm
  have HC := Lib.hid hcell
  have B3' := B0.trans (B3.mono B0.size)
  have hw3 : 1 < w3.heap.size := Nat.lt_of_lt_of_le (by have := HEW.out; obtain ⟨_, _, _, h⟩ := this; exact h) B3.size
  have HB3 := Lib.hid B3'
  have HE3 := Lib.hid (HEW.out.below B3 (by have := HEW.out; obtain ⟨_, _, _, h⟩ := this; exact h))
  clear hm hcell S1 hml P HI HS HEW B0 B3 B3'
  have hx6 := HP.out.hx
  have hy6 := HP.out.hy
  obtain ⟨mr, hmr⟩ : ∃ r, r = (n2 : Int).tmod (j' + 1) := ⟨_, rfl⟩
  have hmb : 0 ≤ mr ∧ mr ≤ j' := by
    rw [hmr, Int.tmod_eq_emod_of_nonneg (by omega)]
    have h1 := Int.emod_nonneg (n2 : Int) (show j' + 1 ≠ 0 by omega)
    have h2 := Int.emod_lt_of_pos (n2 : Int) (show 0 < j' + 1 by omega)
    omega
  obtain ⟨mI, hmI⟩ : ∃ x, x = 2 * mr - j' := ⟨_, rfl⟩
  have hpr : mI ∈ proj j' := mem_proj (by omega) (by omega)
  have HPR := Lib.hid hpr
  obtain ⟨j0, j6⟩ := hx6
  obtain ⟨j0', j6'⟩ := hy6
  obtain ⟨mb0, mb1⟩ := hmb
  have hw1 : IntKind.i64.wrap (j' + 1) = j' + 1 := IntWalk.i64_in _ (by omega)
  have hw2 : IntKind.i64.wrap mr = mr := IntWalk.i64_in _ (by omega)
  have hw3 : IntKind.i64.wrap (2 * mr) = 2 * mr := IntWalk.i64_in _ (by omega)
  have hw4 : IntKind.i64.wrap (2 * mr - j') = mI := by rw [IntWalk.i64_in _ (by omega)]; exact hmI.symm
  have hz1 : (j' + 1 == 0) = false := by rw [beq_eq_false_iff_ne]; omega
  have hz2 : ¬ j' + 1 = 0 := by omega
  have hmr2 : (n2 : Int).tmod (j' + 1) = mr := hmr.symm
  have hmI2 : 2 * mr - j' = mI := hmI.symm
  have hm19' := hm19
  clear hpr hmr hmI
  have hxl1 : IntKind.i64.wrap (j + 1) = j + 1 := IntWalk.i64_in _ (by omega)
  have HPL := Lib.hid (show sumL xs = ⟨j + 1, 1, true⟩ from by rw [HXL.out]; exact p_all HP.out)
  have hS1 := fun v W (h : Sees W 6 v xs.length (xs.flatMap encSp)) => iSplitSum xs v W h (by have := HM.out; omega)
  rw [HPL.out] at hS1
  unfold roV at hS1
  have HS1 := Lib.hid hS1
  have hBz := Below.refl w3.heap.size w3
  have HBB := Lib.hid hBz
  obtain ⟨i0, hi, hz0', hz1', hz2'⟩ := info_parts RowsSplit.infoSplit
  have HI := Lib.hid hi
  have HZ0 := Lib.hid hz0'
  have HZ1 := Lib.hid hz1'
  have HZ2 := Lib.hid hz2'
  clear hi hz0' hz1' hz2' hS1 hBz HPL
  go_wp2_with fail
  (with_reducible refine (HS1.out _ _ (HS3.out.below HBB.out (Nat.le_refl _))).mono ?_)
  rintro e wa21 ⟨rfl, ba⟩
  replace HBB := Lib.hid (HBB.out.trans (ba.mono HBB.out.size))
  clear ba 
  go_upto_region 9 with fail
  have gHT1 := HBB.out.size
  obtain ⟨wb21, hwn⟩ : ∃ W : World, W = wa21.alloc (.cells #[.int .i64 (j + 1), .int .i64 (1)] 34) := ⟨_, rfl⟩
  have HT1 : Hid (Two wb21 wa21.heap.size (j + 1) (1)) := Lib.hid (by rw [hwn]; exact Two.new _ _ _ _)
  replace HBB : Hid (Below w3.heap.size w3 wb21) := Lib.hid (by rw [hwn]; exact HBB.out.alloc HBB.out.size _)
  rw [← hwn]
  obtain ⟨bHT1, hbn⟩ : ∃ x, x = wa21.heap.size := ⟨_, rfl⟩
  rw [← hbn] at HT1 gHT1 ⊢
  clear hwn hbn
  obtain ⟨_, _, _, _, _, y2, _, ly⟩ := HL3.out.below HBB.out HL3.out.2.2.2.2.2.2.1 HL3.out.2.2.2.2.2.2.2
  have f0 : ∀ p : Later wb21.heap.size wb21, p.W.cell? ⟨w.heap.size + 1, 2, none⟩ = some (.int .i64 j') := Later.cell y2 ly
  refine Later.wp_region_later (wb21.heap.size) (by kernel_rfl) (by kernel_rfl) ?_
  repeat (first | go_big_quiet_step ((fail)) | quiet_step ((fail)))
  refine wpQuiet_nil ?_
  rintro w20 ⟨q20, hq20⟩
  have b20 := q20.h
  rw [← hq20] at b20
  clear hq20 q20
  replace HT1 := Lib.hid (HT1.out.below b20 HT1.out.2.2.2.2)
  replace HBB := Lib.hid (HBB.out.trans (b20.mono HBB.out.size))
  clear f0 y2 ly b20 hw1 hw2 hw3 hw4 hz1 hz2 hmr2 hmI2 mb0 mb1 HS1
  go_upto_region 11 with fail
  obtain ⟨wz, hwz⟩ : ∃ W : World, W = w20.alloc (.cells #[] 40) := ⟨_, rfl⟩
  have O0 : wz.ownsRow w20.heap.size 40 6 (.slice (some ⟨w20.heap.size, 0, none⟩) 0 0) 0 [] := ⟨rfl, .inr ⟨_, _, #[], rfl, Nat.le_refl _, by rw [hwz]; exact heap_alloc_new w20 _, Nat.le_refl _, by unfold maxLen; omega, rfl, rfl⟩⟩
  have gz : w3.heap.size ≤ w20.heap.size := HBB.out.size
  have h1z : bHT1 < w20.heap.size := HT1.out.2.2.2.2
  have hzz : w20.heap.size ≤ wz.heap.size := by rw [hwz]; simp
  replace HT1 : Hid (Two wz bHT1 (j + 1) 1) := Lib.hid (by rw [hwz]; exact HT1.out.alloc _)
  replace HBB : Hid (Below w3.heap.size w3 wz) := Lib.hid (by rw [hwz]; exact HBB.out.alloc HBB.out.size _)
  rw [← hwz]
  obtain ⟨bL, hbL⟩ : ∃ x, x = w20.heap.size := ⟨_, rfl⟩
  rw [← hbL] at O0 gz h1z hzz ⊢
  clear hwz hbL
  obtain ⟨plf, hplf⟩ : ∃ f : Nat → List Sp, f = fun q => pl j j' A C (fl mI) q := ⟨_, rfl⟩
  have hp0 : plf 0 = [] := by rw [hplf]; rfl
  have hpe : sumL (plf m) = mkR (j + 1) (j' + 1) ∧ (mkR (j + 1) (j' + 1)).ok = true := by
    rw [hplf]
    exact p_pl_lower HP.out HPR.out (by rw [HM.out, HXL.out]; exact Nat.le_refl _)
  have hpl : ∀ q, (plf q).length ≤ q := by rw [hplf]; exact fun q => pl_len j j' A C (fl mI) q
  have hps : ∀ q (hq : q < xs.length), (xs[q].l = mI → plf (q + 1) = plf q ++ [xs[q]]) ∧ (¬ xs[q].l = mI → plf (q + 1) = plf q) := by
    have hx := HXL.out
    have hP := HP.out
    clear HXL HC HM HS3
    subst hx
    rw [hplf]
    intro q hq
    refine ⟨fun h => ?_, fun h => ?_⟩
    · exact pl_yes (fl mI) hq (by simp [fl, h])
    · exact pl_no (fl mI) hq (by simp [fl, h])
  clear hplf
  have HPS := Lib.hid hps
  have HPLN := Lib.hid hpl
  have hR := fun W => iRatOf (j + 1) (j' + 1) W (by omega) (by omega)
  generalize mkR (j + 1) (j' + 1) = r at *
  obtain ⟨rn, rd, rk⟩ := r
  obtain ⟨hpe, hrk⟩ := hpe
  simp only at hrk
  subst hrk
  unfold roV at hR
  have HR := Lib.hid hR
  have HPE := Lib.hid hpe
  have HW1 := Lib.hid (fun W => lwhole (j + 1) W)
  have hbT : b < bL := Nat.lt_of_lt_of_le hb gz
  have HO0 := Lib.hid O0
  clear hpe hps hpl hR O0
  go_wp2
  go_loopw [14, 15] (fun u i wr => ∃ (q : Nat) (v5 : Value), v5 = u ∧ q ≤ m ∧ i = .int .i64 q ∧ wr.ownsRow bL 40 6 v5 (plf q).length ((plf q).flatMap encSp) ∧ Below bL wz wr) (fun _ i _ => m - (intOf i).toNat)
  case atStart => exact ⟨0, _, rfl, by omega, rfl, by rw [hp0]; exact HO0.out, Below.refl _ _⟩
  case round =>
    obtain ⟨i, v5, rfl, hi, rfl, hown, hB⟩ := hrel
    have hsz := hB.size
    by_cases hlt : i < m
    · have hi1 : (i : Int) < (m : Int) := by omega
      have hil : i < xs.length := by have := HM.out; omega
      have hbw : b < wr.heap.size := by omega
      obtain ⟨u0, u1, u2, u3, u4, u5⟩ := RowsSplit.at_Split (w := wr) (xs := xs) (b := b) (o := o) (fun q hq => (hB.cell (p := ⟨b, o + q, none⟩) hbT).trans ((HBB.out.cell (p := ⟨b, o + q, none⟩) hb).trans (HC.out q hq))) i hil
      obtain ⟨hyes, hno⟩ := HPS.out i hil
      have hpl := HPLN.out i
      have HY := Lib.hid hyes
      have HNO := Lib.hid hno
      clear hyes hno
      generalize xs[i] = e at *
      obtain ⟨eu, el, ep, eq, es, et⟩ := e
      simp only at u0 u1 u2 u3 u4 u5 HY HNO
      generalize hP9 : plf i = P9 at *
      obtain ⟨pn, hpn⟩ : ∃ x, x = P9.length := ⟨_, rfl⟩
      have HPN := Lib.hid hpn
      have HP9 := Lib.hid hP9
      rw [← hpn] at hown hpl
      clear hpn hP9
      by_cases hu : el = mI
      · have hub : (el == mI) = true := beq_iff_eq.2 hu
        have hud : decide (el = mI) = true := decide_eq_true hu
        have HF := Lib.hid (HY.out hu)
        clear HY HNO hu
        go_upto_region 15 with fail
        go_wp2_with (at_builtin; refine wpList_append_own _ rfl _ _ 29 rfl bL 40 i0 (.agg #[.int .i64 0, .int .i64 0, .int .i64 0, .int .i64 0, .int .i64 0, .int .i64 0]) 6 48 Tryd.underlying29 HI.out HZ0.out HZ1.out HZ2.out rfl (by decide) _ _ _ rfl (hown.alloc _) ⟨wr.heap.size, 0, none⟩ 1 1 [.int .i64 eu, .int .i64 el, .int .i64 ep, .int .i64 eq, .int .i64 es, .int .i64 et] rfl rfl (cells_new _ _ _) (by simp [Value.oneCell']) (by unfold maxLen; omega) (by omega) (by simp; omega) ?_)
        intro v' w2' hown' hgrow _
        have B2 := own_step hB hzz hgrow (fun k hk => (hown.lt k hk).1)
        have O2 : w2'.ownsRow bL 40 6 v' (plf (i + 1)).length ((plf (i + 1)).flatMap encSp) := by
          rw [HF.out]
          rw [List.flatMap_append, List.length_append, ← HPN.out]
          exact hown'
        clear hown' hgrow hown u0 u1 u2 u3 u4 u5
        go_wp2
        go_roundw
        case rel => exact ⟨i + 1, v', rfl, by omega, by go_num, O2, B2⟩
        case measure => simp [intOf]; omega
      · have hub : (el == mI) = false := beq_eq_false_iff_ne.2 hu
        have hud : decide (el = mI) = false := decide_eq_false hu
        have hown2 : wr.ownsRow bL 40 6 v5 (plf (i + 1)).length ((plf (i + 1)).flatMap encSp) := by rw [HNO.out hu, ← HPN.out]; exact hown
        clear HY HNO
        go_wp2
        go_roundw
        case rel => exact ⟨i + 1, v5, rfl, by omega, by go_num, hown2, hB⟩
        case measure => simp [intOf]; omega
    · obtain rfl : i = m := by omega
      have hS2 := fun v W (h : Sees W 6 v (plf i).length ((plf i).flatMap encSp)) => iSplitSum (plf i) v W h (by have := HPLN.out i; omega)
      rw [HPE.out] at hS2
      unfold roV at hS2
      have HS2 := Lib.hid hS2
      have HOW := Lib.hid hown
      replace HT1 := Lib.hid (HT1.out.below hB h1z)
      replace HBB := Lib.hid (HBB.out.trans (hB.mono gz))
      clear hS2 hown hB hsz
      go_wp2_with fail
      (with_reducible refine (HS2.out _ _ (Sees.of_own HOW.out)).mono ?_)
      rintro e wa41 ⟨rfl, ba⟩
      replace HT1 := Lib.hid (HT1.out.below ba HT1.out.2.2.2.2)
      replace HBB := Lib.hid (HBB.out.trans (ba.mono HBB.out.size))
      clear ba 
      go_upto_region 17 with fail
      have gHT2 := HBB.out.size
      obtain ⟨wb41, hwn⟩ : ∃ W : World, W = wa41.alloc (.cells #[.int .i64 (rn), .int .i64 (rd)] 34) := ⟨_, rfl⟩
      have HT2 : Hid (Two wb41 wa41.heap.size (rn) (rd)) := Lib.hid (by rw [hwn]; exact Two.new _ _ _ _)
      replace HT1 : Hid (Two wb41 bHT1 (j + 1) (1)) := Lib.hid (by rw [hwn]; exact HT1.out.alloc _)
      replace HBB : Hid (Below w3.heap.size w3 wb41) := Lib.hid (by rw [hwn]; exact HBB.out.alloc HBB.out.size _)
      rw [← hwn]
      obtain ⟨bHT2, hbn⟩ : ∃ x, x = wa41.heap.size := ⟨_, rfl⟩
      rw [← hbn] at HT2 gHT2 ⊢
      clear hwn hbn
      have hj'w : IntKind.i64.wrap (j' + 1) = j' + 1 := IntWalk.i64_in _ (by omega)
      obtain ⟨x0, x1, x2, y0, y1, y2, lx, ly⟩ := HL3.out.below HBB.out HL3.out.2.2.2.2.2.2.1 HL3.out.2.2.2.2.2.2.2
      go_wp2_with fail
      (with_reducible refine (HR.out _).mono ?_)
      rintro e wa42 ⟨rfl, ba⟩
      replace HT1 := Lib.hid (HT1.out.below ba HT1.out.2.2.2.2)
      replace HT2 := Lib.hid (HT2.out.below ba HT2.out.2.2.2.2)
      replace HBB := Lib.hid (HBB.out.trans (ba.mono HBB.out.size))
      clear ba x0 x1 x2 y0 y1 y2 lx ly
      go_upto_region 18 with fail
      have gHT3 := HBB.out.size
      obtain ⟨wb42, hwn⟩ : ∃ W : World, W = wa42.alloc (.cells #[.int .i64 (rn), .int .i64 (rd)] 34) := ⟨_, rfl⟩
      have HT3 : Hid (Two wb42 wa42.heap.size (rn) (rd)) := Lib.hid (by rw [hwn]; exact Two.new _ _ _ _)
      replace HT1 : Hid (Two wb42 bHT1 (j + 1) (1)) := Lib.hid (by rw [hwn]; exact HT1.out.alloc _)
      replace HT2 : Hid (Two wb42 bHT2 (rn) (rd)) := Lib.hid (by rw [hwn]; exact HT2.out.alloc _)
      replace HBB : Hid (Below w3.heap.size w3 wb42) := Lib.hid (by rw [hwn]; exact HBB.out.alloc HBB.out.size _)
      rw [← hwn]
      obtain ⟨bHT3, hbn⟩ : ∃ x, x = wa42.heap.size := ⟨_, rfl⟩
      rw [← hbn] at HT3 gHT3 ⊢
      clear hwn hbn
      obtain ⟨_, _, x2, _, _, _, lx, _⟩ := HL3.out.below HBB.out HL3.out.2.2.2.2.2.2.1 HL3.out.2.2.2.2.2.2.2
      obtain ⟨t00, t01, _, _, t04⟩ := HT1.out
      have f00 : ∀ p : Later wb42.heap.size wb42, p.W.cell? ⟨bHT1, 0, none⟩ = some (.int .i64 (j + 1)) := Later.cell t00 t04
      have f01 : ∀ p : Later wb42.heap.size wb42, p.W.cell? ⟨bHT1, 1, none⟩ = some (.int .i64 (1)) := Later.cell t01 t04
      obtain ⟨t10, t11, _, _, t14⟩ := HT2.out
      have f10 : ∀ p : Later wb42.heap.size wb42, p.W.cell? ⟨bHT2, 0, none⟩ = some (.int .i64 (rn)) := Later.cell t10 t14
      have f11 : ∀ p : Later wb42.heap.size wb42, p.W.cell? ⟨bHT2, 1, none⟩ = some (.int .i64 (rd)) := Later.cell t11 t14
      obtain ⟨t20, t21, _, _, t24⟩ := HT3.out
      have f20 : ∀ p : Later wb42.heap.size wb42, p.W.cell? ⟨bHT3, 0, none⟩ = some (.int .i64 (rn)) := Later.cell t20 t24
      have f21 : ∀ p : Later wb42.heap.size wb42, p.W.cell? ⟨bHT3, 1, none⟩ = some (.int .i64 (rd)) := Later.cell t21 t24
      have fx : ∀ p : Later wb42.heap.size wb42, p.W.cell? ⟨w.heap.size, 2, none⟩ = some (.int .i64 j) := Later.cell x2 lx
      refine Later.wp_region_later (wb42.heap.size) (by kernel_rfl) (by kernel_rfl) ?_
      repeat (first | go_big_quiet_step ((go_at_call 12; with_reducible exact later_gives (Nat.le_refl _) (HW1.out _))) | quiet_step ((go_at_call 12; with_reducible exact later_gives (Nat.le_refl _) (HW1.out _))))
      refine wpQuiet_nil ?_
      rintro w9 ⟨q9, hq9⟩
      have b9 := q9.h
      rw [← hq9] at b9
      clear hq9 q9
      clear fx f00 f01 f10 f11 f20 f21
      have B9 := HB3.out.trans ((HBB.out.trans (b9.mono HBB.out.size)).mono HB3.out.size)
      go_wp2
      go_ret
      exact ⟨rfl, B9⟩
end Go.Proofs.YtpollgibgphipaaDoor.WFnSplitTotal
