/-
  The walk of the law FnSplitUpper.
-/
import Derived.Test.YtpollgibgphipaaDoorSplitLaws
import Derived.Test.YtpollgibgphipaaDoorRowsSplit
import Derived.Test.YtpollgibgphipaaDoorDrawSpl
import Derived.Test.YtpollgibgphipaaDoorSplI
import Derived.Test.YtpollgibgphipaaDoorSplS
import Derived.Test.YtpollgibgphipaaDoorSplD
import Derived.BigQuiet
import Derived.Test.YtpollgibgphipaaDoorSplE
import Derived.Test.YtpollgibgphipaaDoorRegM
import Derived.Deep.DeepCutAuto
namespace Go.Proofs.YtpollgibgphipaaDoor.WFnSplitUpper
open Go.RowKit Go.Proofs.YtpollgibgphipaaDoor.RatP Go.Proofs.YtpollgibgphipaaDoor.ChoP Go.Proofs.YtpollgibgphipaaDoor.Rat Go.Proofs.YtpollgibgphipaaDoor.Spin Go.Proofs.YtpollgibgphipaaDoor.Row Go.Proofs.YtpollgibgphipaaDoor.Later Go.Proofs.YtpollgibgphipaaDoor.SplitPlain Go.Proofs.YtpollgibgphipaaDoor.SplitDef Go.Proofs.YtpollgibgphipaaDoor.SplitP Go.Proofs.YtpollgibgphipaaDoor.Fac Go.Proofs.YtpollgibgphipaaDoor.FacI Go.Proofs.YtpollgibgphipaaDoor.SplitLaws Go.Proofs.YtpollgibgphipaaDoor.Two Go.Proofs.YtpollgibgphipaaDoor.Rd Go.Proofs.YtpollgibgphipaaDoor.DrawSpl Go.Proofs.YtpollgibgphipaaDoor.SplS Go.Proofs.YtpollgibgphipaaDoor.SplI Go.Proofs.YtpollgibgphipaaDoor.SplD Go.Proofs.YtpollgibgphipaaDoor.SplE Go.Proofs.YtpollgibgphipaaDoor.RegM
set_option linter.unusedVariables false
set_option linter.unusedSimpArgs false

set_option maxRecDepth 100000 in
set_option maxHeartbeats 8000000 in
theorem fnSplitUpper (a : Option Addr) (n c : Nat) (zs : List Int) (a2 : Option Addr) (n2 c2 : Nat) (zs2 : List Int) (w0 : World) (hE : Errs w0) (h : IsRow .u8 w0 a n c zs) (h2 : IsRow .u8 w0 a2 n2 c2 zs2) :
    Calls Tryd.prog 4 #[.slice a n c, .slice a2 n2 c2] w0 (Yes w0) := by
  have HO := Lib.hid (drawSplitOf a n c zs w0 h)
  have HE := Lib.hid hE
  clear h hE h2
  by_cases hn : 1048576 < n
  · go_enter Tryd.func4, Tryd.ntmps4
    go_wp2_with fail
    all_goals go_ret
    all_goals exact ⟨rfl, Below.refl _ _⟩
  have hd1 : decide ((1048576 : Int) < (n : Int)) = false := decide_eq_false (by omega)
  by_cases hn2 : 1048576 < n2
  · have hd2 : decide ((1048576 : Int) < (n2 : Int)) = true := decide_eq_true (by omega)
    go_enter Tryd.func4, Tryd.ntmps4
    go_wp2_with fail
    all_goals go_ret
    all_goals exact ⟨rfl, Below.refl _ _⟩
  have hd2 : decide ((1048576 : Int) < (n2 : Int)) = false := decide_eq_false (by omega)
  go_enter Tryd.func4, Tryd.ntmps4
  go_wp2_with fail
  refine HO.out.mono ?_
  rintro e w ⟨s, l, j, s', l', j', rfl, B0⟩
  clear HO
  cases hs : splitOk s l j s' l' j'
  · have HI := Lib.hid (fun W (_ : Below w.heap.size w W) => iSplitOf_no s l j s' l' j' W hs)
    have HS := Lib.hid (fun W => sSplitOf_no s l j s' l' j' W hs)
    have HSS := Lib.hid (fun W v1 v2 h1 h2 => RowsSplit.sameSplits [] v1 v2 W h1 h2)
    clear hs HE
    have LV0 := lv6_two w s l j s' l' j'
    have BZ0 : Below w.heap.size w ((w.alloc (.cells #[.int .i64 s, .int .i64 l, .int .i64 j] 26)).alloc (.cells #[.int .i64 s', .int .i64 l', .int .i64 j'] 26)) := (by repeat (first | (with_reducible refine Below.drew ?_) | (with_reducible refine below_drewN ?_ _) | (with_reducible refine Below.alloc ?_ ?_ _) | (with_reducible refine Below.setCell ?_ ?_ _) | (with_reducible assumption) | (with_reducible exact Below.refl _ _) | omega | (simp <;> omega)))
    have hz0 : ((w.alloc (.cells #[.int .i64 s, .int .i64 l, .int .i64 j] 26)).alloc (.cells #[.int .i64 s', .int .i64 l', .int .i64 j'] 26)).heap.size = w.heap.size + 2 := by simp
    have HZ0 := Lib.hid hz0
    clear hz0
    go_wp2_with fail
    (with_reducible refine (HI.out _ BZ0).mono ?_)
    rintro e w1 ⟨v1, rfl, O1, b1⟩
    have B1 := BZ0.trans (b1.mono BZ0.size)
    have LV1 := LV0.below b1 (by have := HZ0.out; omega) (by have := HZ0.out; omega)
    have S1 := Sees.of_own O1
    clear b1 LV0 BZ0 HZ0 O1
    have HL1 := Lib.hid LV1
    obtain ⟨x0, x1, x2, y0, y1, y2, lx, ly⟩ := LV1
    go_wp2_with fail
    (with_reducible refine (HS.out _).mono ?_)
    rintro e w2 ⟨v2, rfl, O2, b2⟩
    have B2 := B1.trans (b2.mono B1.size)
    have S1 := S1.below b2 (Nat.le_refl _)
    have S2 := Sees.of_own O2
    have HL2 := Lib.hid (HL1.out.below b2 lx ly)
    clear b2 B1 O2 HL1 x0 x1 x2 y0 y1 y2 lx ly
    go_wp2_with fail
    (with_reducible refine (HSS.out _ _ _ S1 S2).mono ?_)
    rintro e w3 ⟨rfl, b3⟩
    have B3 := B2.trans (b3.mono B2.size)
    have S1 := S1.below b3 (Nat.le_refl _)
    have S2 := S2.below b3 (Nat.le_refl _)
    clear b3 B2
    go_wp2_with fail
    (with_reducible refine (HSS.out _ _ _ S1 S2).mono ?_)
    rintro e w4 ⟨rfl, b4⟩
    have B4 := B3.trans (b4.mono B3.size)
    go_wp2
    go_ret
    exact ⟨rfl, B0.trans (B4.mono B0.size)⟩
  have P := (splitOk_pair hs).pair
  have HEW := Lib.hid (HE.out.below B0 (by have := HE.out; obtain ⟨_, _, _, h⟩ := this; exact h))
  have HI := Lib.hid (fun W (hB : Below w.heap.size w W) => iSplitOf_yes s l j s' l' j' W hs (HEW.out.below hB (by have := HEW.out; obtain ⟨_, _, _, h⟩ := this; exact h)))
  have HS := Lib.hid (fun W => sSplitOf_yes s l j s' l' j' W hs)
  have HSP := Lib.hid hs
  obtain ⟨A, hA⟩ : ∃ A, A = gn s l j := ⟨_, rfl⟩
  obtain ⟨C, hC⟩ : ∃ C, C = gn s' l' j' := ⟨_, rfl⟩
  obtain ⟨xs, hxs⟩ : ∃ xs, xs = splitS s l j s' l' j' := ⟨_, rfl⟩
  have hxl : xs = splitL j j' A C := by rw [hxs, hA, hC]; rfl
  rw [← hxs] at HI HS
  rw [← hA, ← hC] at P
  have HA := Lib.hid hA
  have HC' := Lib.hid hC
  have HXL := Lib.hid hxl
  have HSS := Lib.hid (fun W v1 v2 h1 h2 => RowsSplit.sameSplits xs v1 v2 W h1 h2)
  have hlen := P.len_is
  rw [← hxl] at hlen
  have HP := Lib.hid P
  clear hs HE hA hC hxs hxl
  have LV0 := lv6_two w s l j s' l' j'
  have BZ0 : Below w.heap.size w ((w.alloc (.cells #[.int .i64 s, .int .i64 l, .int .i64 j] 26)).alloc (.cells #[.int .i64 s', .int .i64 l', .int .i64 j'] 26)) := (by repeat (first | (with_reducible refine Below.drew ?_) | (with_reducible refine below_drewN ?_ _) | (with_reducible refine Below.alloc ?_ ?_ _) | (with_reducible refine Below.setCell ?_ ?_ _) | (with_reducible assumption) | (with_reducible exact Below.refl _ _) | omega | (simp <;> omega)))
  have hz0 : ((w.alloc (.cells #[.int .i64 s, .int .i64 l, .int .i64 j] 26)).alloc (.cells #[.int .i64 s', .int .i64 l', .int .i64 j'] 26)).heap.size = w.heap.size + 2 := by simp
  have HZ0 := Lib.hid hz0
  clear hz0
  go_wp2_with fail
  (with_reducible refine (HI.out _ BZ0).mono ?_)
  rintro e w1 ⟨v1, rfl, O1, b1⟩
  have B1 := BZ0.trans (b1.mono BZ0.size)
  have LV1 := LV0.below b1 (by have := HZ0.out; omega) (by have := HZ0.out; omega)
  have S1 := Sees.of_own O1
  clear b1 LV0 BZ0 HZ0 O1
  have HL1 := Lib.hid LV1
  obtain ⟨x0, x1, x2, y0, y1, y2, lx, ly⟩ := LV1
  go_wp2_with fail
  (with_reducible refine (HS.out _).mono ?_)
  rintro e w2 ⟨v2, rfl, O2, b2⟩
  have B2 := B1.trans (b2.mono B1.size)
  have S1 := S1.below b2 (Nat.le_refl _)
  have S2 := Sees.of_own O2
  have HL2 := Lib.hid (HL1.out.below b2 lx ly)
  clear b2 B1 O2 HL1 x0 x1 x2 y0 y1 y2 lx ly
  go_wp2_with fail
  (with_reducible refine (HSS.out _ _ _ S1 S2).mono ?_)
  rintro e w3 ⟨rfl, b3⟩
  have B3 := B2.trans (b3.mono B2.size)
  have HL3 := Lib.hid (HL2.out.below b3 HL2.out.2.2.2.2.2.2.1 HL2.out.2.2.2.2.2.2.2)
  have S1 := S1.below b3 (Nat.le_refl _)
  clear b3 B2 S2 HL2 HSS
  obtain ⟨m, hm⟩ : ∃ m, m = xs.length := ⟨_, rfl⟩
  have HM := Lib.hid hm
  rw [← hm] at hlen
  obtain ⟨hm19, hm0, hml⟩ := hlen
  have HML := Lib.hid hml
  obtain ⟨b, o, c', rfl, hnc, hcm, hb, hcell⟩ : ∃ b o c', v1 = .slice (some ⟨b, o, none⟩) m c' ∧ m ≤ c' ∧ c' ≤ maxLen ∧ b < w3.heap.size ∧ ∀ i, i < xs.length * 6 → w3.cell? ⟨b, o + i, none⟩ = (xs.flatMap encSp)[i]? := by
    rcases S1.2 with ⟨h0, _⟩ | ⟨b, o, c', rfl, h1, h2, h3, h4⟩
    · omega
    · exact ⟨b, o, c', by rw [hm], by omega, h2, h3, h4⟩
  unfold maxLen at hcm
  have HC := Lib.hid hcell
  have B3' := B0.trans (B3.mono B0.size)
  have hw3 : 1 < w3.heap.size := Nat.lt_of_lt_of_le (by have := HEW.out; obtain ⟨_, _, _, h⟩ := this; exact h) B3.size
  have HB3 := Lib.hid B3'
  have HE3 := Lib.hid (HEW.out.below B3 (by have := HEW.out; obtain ⟨_, _, _, h⟩ := this; exact h))
  clear hm hcell S1 hml P HI HS HEW B0 B3 B3'
  have hx6 := HP.out.hx
  have hy6 := HP.out.hy
  obtain ⟨mr, hmr⟩ : ∃ r, r = (n2 : Int).tmod (j + 1) := ⟨_, rfl⟩
  have hmb : 0 ≤ mr ∧ mr ≤ j := by
    rw [hmr, Int.tmod_eq_emod_of_nonneg (by omega)]
    have h1 := Int.emod_nonneg (n2 : Int) (show j + 1 ≠ 0 by omega)
    have h2 := Int.emod_lt_of_pos (n2 : Int) (show 0 < j + 1 by omega)
    omega
  obtain ⟨mI, hmI⟩ : ∃ x, x = 2 * mr - j := ⟨_, rfl⟩
  have hpr : mI ∈ proj j := mem_proj (by omega) (by omega)
  have HPR := Lib.hid hpr
  obtain ⟨j0, j6⟩ := hx6
  obtain ⟨j0', j6'⟩ := hy6
  obtain ⟨mb0, mb1⟩ := hmb
  have hw1 : IntKind.i64.wrap (j + 1) = j + 1 := IntWalk.i64_in _ (by omega)
  have hw2 : IntKind.i64.wrap mr = mr := IntWalk.i64_in _ (by omega)
  have hw3 : IntKind.i64.wrap (2 * mr) = 2 * mr := IntWalk.i64_in _ (by omega)
  have hw4 : IntKind.i64.wrap (2 * mr - j) = mI := by rw [IntWalk.i64_in _ (by omega)]; exact hmI.symm
  have hz1 : (j + 1 == 0) = false := by rw [beq_eq_false_iff_ne]; omega
  have hz2 : ¬ j + 1 = 0 := by omega
  have hmr2 : (n2 : Int).tmod (j + 1) = mr := hmr.symm
  have hmI2 : 2 * mr - j = mI := hmI.symm
  have hm19' := hm19
  clear hpr hmr hmI
  obtain ⟨_, _, x2, _, _, _, lx, _⟩ := HL3.out
  go_wp2_with fail
  go_upto_region 8 with fail
  have f0 : ∀ p : Later w3.heap.size w3, p.W.cell? ⟨w.heap.size, 2, none⟩ = some (.int .i64 j) := Later.cell x2 lx
  refine Later.wp_region_later (w3.heap.size) (by kernel_rfl) (by kernel_rfl) ?_
  repeat (first | go_big_quiet_step ((fail)) | quiet_step ((fail)))
  refine wpQuiet_nil ?_
  rintro w20 ⟨q20, hq20⟩
  have b20 := q20.h
  rw [← hq20] at b20
  clear hq20 q20
  have HBB := Lib.hid b20
  clear f0 x2 lx b20 hw1 hw2 hw3 hw4 hz1 hz2 hmr2 hmI2 mb0 mb1
  have HW0 := Lib.hid (fun W => lwhole 0 W)
  have HW1 := Lib.hid (fun W => lwhole 1 W)
  go_wp2_with fail
  (with_reducible refine (HW0.out _).mono ?_)
  rintro e wa21 ⟨rfl, ba⟩
  replace HBB := Lib.hid (HBB.out.trans (ba.mono HBB.out.size))
  clear ba 
  go_upto_region 10 with fail
  have gHTS := HBB.out.size
  obtain ⟨wb21, hwn⟩ : ∃ W : World, W = wa21.alloc (.cells #[.int .i64 (0), .int .i64 (1)] 34) := ⟨_, rfl⟩
  have HTS : Hid (Two wb21 wa21.heap.size (0) (1)) := Lib.hid (by rw [hwn]; exact Two.new _ _ _ _)
  replace HBB : Hid (Below w3.heap.size w3 wb21) := Lib.hid (by rw [hwn]; exact HBB.out.alloc HBB.out.size _)
  rw [← hwn]
  obtain ⟨bHTS, hbn⟩ : ∃ x, x = wa21.heap.size := ⟨_, rfl⟩
  rw [← hbn] at HTS gHTS ⊢
  clear hwn hbn
  obtain ⟨psf, hpsf⟩ : ∃ f : Nat → Ro, f = fun q => ps j j' A C (fu mI) q := ⟨_, rfl⟩
  have hp0 : psf 0 = ⟨0, 1, true⟩ := by rw [hpsf]; rfl
  have hpe : psf m = ⟨1, 1, true⟩ := by
    rw [hpsf]
    exact p_ps_upper HP.out HPR.out (by rw [HM.out, HXL.out]; exact Nat.le_refl _)
  have hps : ∀ q (hq : q < xs.length), (psf (q + 1)).ok = true ∧ (xs[q].u = mI → addQ (psf q) ⟨xs[q].s, xs[q].t, true⟩ = psf (q + 1)) ∧ (¬ xs[q].u = mI → psf (q + 1) = psf q) := by
    have hx := HXL.out
    have hP := HP.out
    clear HXL HC HM
    subst hx
    rw [hpsf]
    intro q hq
    refine ⟨p_ps_ok hP _ _, fun h => ?_, fun h => ?_⟩
    · exact p_ps_yes hP (fu mI) hq (by simp [fu, h])
    · exact ps_no (fu mI) hq (by simp [fu, h])
  clear hpsf
  have HPE := Lib.hid hpe
  have HPS := Lib.hid hps
  have hbT : b < bHTS := Nat.lt_of_lt_of_le hb gHTS
  clear hpe hps HW0
  go_wp2
  go_loopw [13, 14] (fun f i wr => ∃ q : Nat, q ≤ m ∧ f = .bool true ∧ i = .int .i64 q ∧ Two wr bHTS (psf q).n (psf q).d ∧ Below bHTS wb21 wr) (fun _ i _ => m - (intOf i).toNat)
  case atStart => exact ⟨0, by omega, rfl, rfl, by rw [hp0]; exact HTS.out, Below.refl _ _⟩
  case round =>
    obtain ⟨i, hi, rfl, rfl, hT, hB⟩ := hrel
    have HOLD := Lib.hid hT
    clear hT
    by_cases hlt : i < m
    · have hi1 : (i : Int) < (m : Int) := by omega
      have hil : i < xs.length := by have := HM.out; omega
      have hbw : b < wr.heap.size := Nat.lt_of_lt_of_le (Nat.lt_of_lt_of_le hb HBB.out.size) hB.size
      obtain ⟨u0, u1, u2, u3, u4, u5⟩ := RowsSplit.at_Split (w := wr) (xs := xs) (b := b) (o := o) (fun q hq => (hB.cell (p := ⟨b, o + q, none⟩) hbT).trans ((HBB.out.cell (p := ⟨b, o + q, none⟩) hb).trans (HC.out q hq))) i hil
      obtain ⟨hok, hyes, hno⟩ := HPS.out i hil
      generalize xs[i] = e at *
      obtain ⟨eu, el, ep, eq, es, et⟩ := e
      simp only at u0 u1 u2 u3 u4 u5 hyes hno
      generalize hp1 : psf (i + 1) = r1 at *
      generalize hpq : psf i = r0 at *
      have HP1 := Lib.hid hp1
      have HPQ := Lib.hid hpq
      have HBR := Lib.hid hB
      obtain ⟨an, ad, ak⟩ := r0
      obtain ⟨rn, rd, rk⟩ := r1
      simp only at hok
      subst hok
      by_cases hu : eu = mI
      · have hub : (eu == mI) = true := beq_iff_eq.2 hu
        have hud : decide (eu = mI) = true := decide_eq_true hu
        have HAD := Lib.hid (fun W => laddTo an ad es et ⟨rn, rd, true⟩ (hyes hu) rfl W)
        clear hyes hno hp1 hpq hB
        go_wp2_with fail
        go_upto_region 15 with fail
        obtain ⟨o0, o1, o2, o3, o4⟩ := HOLD.out
        have Z4 := Lib.hid o4
        clear u0 u1 u2 u3 hub hud hu
        have Z0o0 := Lib.hid o0
        have Z0o1 := Lib.hid o1
        have Z0u4 := Lib.hid u4
        have Z0u5 := Lib.hid u5
        go_region_with
          (first | (go_at_call 15; (with_reducible refine (HAD.out _).mono ?_); rintro e wq1 ⟨rfl, bq1⟩; have BQ1 : Below wr.heap.size wr wq1 := Below.trans (by repeat (first | (with_reducible refine Below.drew ?_) | (with_reducible refine below_drewN ?_ _) | (with_reducible refine Below.alloc ?_ ?_ _) | (with_reducible refine Below.setCell ?_ ?_ _) | (with_reducible assumption) | (with_reducible exact Below.refl _ _) | omega | (simp <;> omega))) (bq1.mono (by first | omega | (simp <;> omega))); have o0 := (BQ1.cell (p := ⟨bHTS, 0, none⟩) o4).trans Z0o0.out; have o1 := (BQ1.cell (p := ⟨bHTS, 1, none⟩) o4).trans Z0o1.out; have u4 := (BQ1.cell (p := ⟨b, o + i * 6 + 4, none⟩) hbw).trans Z0u4.out; have u5 := (BQ1.cell (p := ⟨b, o + i * 6 + 5, none⟩) hbw).trans Z0u5.out; have TQ1 := Lib.hid (HOLD.out.below BQ1 o4); obtain ⟨_, _, o2, o3, _⟩ := TQ1.out; skip))
        all_goals go_wp2
        all_goals go_roundw
        all_goals first | exact ⟨i + 1, by omega, rfl, by go_num, by rw [HP1.out]; exact TQ1.out.put _ _, ((HBR.out.trans (BQ1.mono (Nat.le_of_lt Z4.out))).setCell (Nat.le_refl _) _).setCell (Nat.le_refl _) _⟩ | (simp [intOf]; omega; done) | (trace_state; fail)
      · have hub : (eu == mI) = false := beq_eq_false_iff_ne.2 hu
        have hud : decide (eu = mI) = false := decide_eq_false hu
        have hn := hno hu
        have TX2 : Two wr bHTS (psf (i + 1)).n (psf (i + 1)).d := by rw [HP1.out, hn]; exact HOLD.out
        clear hyes hno hp1 hpq hn
        go_wp2
        go_roundw
        case rel => exact ⟨i + 1, by omega, rfl, by go_num, TX2, hB⟩
        case measure => simp [intOf]; omega
    · obtain rfl : i = m := by omega
      have hT := HOLD.out
      rw [HPE.out] at hT
      obtain ⟨t0, t1, _, _, t4⟩ := hT
      have HBR := Lib.hid (HB3.out.trans ((HBB.out.trans (hB.mono gHTS)).mono HB3.out.size))
      clear hB HOLD
      go_wp2_with fail
      go_upto_region 16 with fail
      have f0 : ∀ p : Later wr.heap.size wr, p.W.cell? ⟨bHTS, 0, none⟩ = some (.int .i64 1) := Later.cell t0 t4
      have f1 : ∀ p : Later wr.heap.size wr, p.W.cell? ⟨bHTS, 1, none⟩ = some (.int .i64 1) := Later.cell t1 t4
      refine Later.wp_region_later (wr.heap.size) (by kernel_rfl) (by kernel_rfl) ?_
      repeat (first | go_big_quiet_step ((go_at_call 12; with_reducible exact later_gives (Nat.le_refl _) (HW1.out _))) | quiet_step ((go_at_call 12; with_reducible exact later_gives (Nat.le_refl _) (HW1.out _))))
      refine wpQuiet_nil ?_
      rintro w9 ⟨q9, hq9⟩
      have b9 := q9.h
      rw [← hq9] at b9
      clear hq9 q9
      clear f0 f1
      have B9 := HBR.out.trans (b9.mono HBR.out.size)
      go_wp2
      go_ret
      exact ⟨rfl, B9⟩
end Go.Proofs.YtpollgibgphipaaDoor.WFnSplitUpper
