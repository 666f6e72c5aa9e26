/-
  The walk of the law FnSplitMean.
-/
import Derived.Test.YtpollgibgphipaaDoorSplitLaws
import Derived.Test.YtpollgibgphipaaDoorRowsSplit
import Derived.Test.YtpollgibgphipaaDoorDrawSpl
import Derived.Test.YtpollgibgphipaaDoorSplI
import Derived.Test.YtpollgibgphipaaDoorSplS
import Derived.Test.YtpollgibgphipaaDoorSplD
import Derived.BigQuiet
import Derived.Test.YtpollgibgphipaaDoorSplE
import Derived.Test.YtpollgibgphipaaDoorRegM
import Derived.Deep.DeepCutAuto
namespace Go.Proofs.YtpollgibgphipaaDoor.WFnSplitMean
open Go.RowKit Go.Proofs.YtpollgibgphipaaDoor.RatP Go.Proofs.YtpollgibgphipaaDoor.ChoP Go.Proofs.YtpollgibgphipaaDoor.Rat Go.Proofs.YtpollgibgphipaaDoor.Spin Go.Proofs.YtpollgibgphipaaDoor.Row Go.Proofs.YtpollgibgphipaaDoor.Later Go.Proofs.YtpollgibgphipaaDoor.SplitPlain Go.Proofs.YtpollgibgphipaaDoor.SplitDef Go.Proofs.YtpollgibgphipaaDoor.SplitP Go.Proofs.YtpollgibgphipaaDoor.Fac Go.Proofs.YtpollgibgphipaaDoor.FacI Go.Proofs.YtpollgibgphipaaDoor.SplitLaws Go.Proofs.YtpollgibgphipaaDoor.Two Go.Proofs.YtpollgibgphipaaDoor.Rd Go.Proofs.YtpollgibgphipaaDoor.DrawSpl Go.Proofs.YtpollgibgphipaaDoor.SplS Go.Proofs.YtpollgibgphipaaDoor.SplI Go.Proofs.YtpollgibgphipaaDoor.SplD Go.Proofs.YtpollgibgphipaaDoor.SplE Go.Proofs.YtpollgibgphipaaDoor.RegM
set_option linter.unusedVariables false
set_option linter.unusedSimpArgs false

set_option maxRecDepth 100000 in
set_option maxHeartbeats 8000000 in
theorem fnSplitMean (a : Option Addr) (n c : Nat) (zs : List Int) (w0 : World) (hE : Errs w0) (h : IsRow .u8 w0 a n c zs) :
    Calls Tryd.prog 3 #[.slice a n c] w0 (Yes w0) := by
  have HO := Lib.hid (drawSplitOf a n c zs w0 h)
  have HE := Lib.hid hE
  clear h hE
  by_cases hn : 1048576 < n
  · go_enter Tryd.func3, Tryd.ntmps3
    go_wp2_with fail
    all_goals go_ret
    all_goals exact ⟨rfl, Below.refl _ _⟩
  have hd1 : decide ((1048576 : Int) < (n : Int)) = false := decide_eq_false (by omega)
  go_enter Tryd.func3, Tryd.ntmps3
  go_wp2_with fail
  refine HO.out.mono ?_
  rintro e w ⟨s, l, j, s', l', j', rfl, B0⟩
  clear HO
  cases hs : splitOk s l j s' l' j'
  · have HI := Lib.hid (fun W (_ : Below w.heap.size w W) => iSplitOf_no s l j s' l' j' W hs)
    have HS := Lib.hid (fun W => sSplitOf_no s l j s' l' j' W hs)
    have HSS := Lib.hid (fun W v1 v2 h1 h2 => RowsSplit.sameSplits [] v1 v2 W h1 h2)
    clear hs HE
    have LV0 := lv6_two w s l j s' l' j'
    have BZ0 : Below w.heap.size w ((w.alloc (.cells #[.int .i64 s, .int .i64 l, .int .i64 j] 26)).alloc (.cells #[.int .i64 s', .int .i64 l', .int .i64 j'] 26)) := (by repeat (first | (with_reducible refine Below.drew ?_) | (with_reducible refine below_drewN ?_ _) | (with_reducible refine Below.alloc ?_ ?_ _) | (with_reducible refine Below.setCell ?_ ?_ _) | (with_reducible assumption) | (with_reducible exact Below.refl _ _) | omega | (simp <;> omega)))
    have hz0 : ((w.alloc (.cells #[.int .i64 s, .int .i64 l, .int .i64 j] 26)).alloc (.cells #[.int .i64 s', .int .i64 l', .int .i64 j'] 26)).heap.size = w.heap.size + 2 := by simp
    have HZ0 := Lib.hid hz0
    clear hz0
    go_wp2_with fail
    (with_reducible refine (HI.out _ BZ0).mono ?_)
    rintro e w1 ⟨v1, rfl, O1, b1⟩
    have B1 := BZ0.trans (b1.mono BZ0.size)
    have LV1 := LV0.below b1 (by have := HZ0.out; omega) (by have := HZ0.out; omega)
    have S1 := Sees.of_own O1
    clear b1 LV0 BZ0 HZ0 O1
    have HL1 := Lib.hid LV1
    obtain ⟨x0, x1, x2, y0, y1, y2, lx, ly⟩ := LV1
    go_wp2_with fail
    (with_reducible refine (HS.out _).mono ?_)
    rintro e w2 ⟨v2, rfl, O2, b2⟩
    have B2 := B1.trans (b2.mono B1.size)
    have S1 := S1.below b2 (Nat.le_refl _)
    have S2 := Sees.of_own O2
    have HL2 := Lib.hid (HL1.out.below b2 lx ly)
    clear b2 B1 O2 HL1 x0 x1 x2 y0 y1 y2 lx ly
    go_wp2_with fail
    (with_reducible refine (HSS.out _ _ _ S1 S2).mono ?_)
    rintro e w3 ⟨rfl, b3⟩
    have B3 := B2.trans (b3.mono B2.size)
    have S1 := S1.below b3 (Nat.le_refl _)
    have S2 := S2.below b3 (Nat.le_refl _)
    clear b3 B2
    go_wp2_with fail
    (with_reducible refine (HSS.out _ _ _ S1 S2).mono ?_)
    rintro e w4 ⟨rfl, b4⟩
    have B4 := B3.trans (b4.mono B3.size)
    go_wp2
    go_ret
    exact ⟨rfl, B0.trans (B4.mono B0.size)⟩
  have P := (splitOk_pair hs).pair
  have HEW := Lib.hid (HE.out.below B0 (by have := HE.out; obtain ⟨_, _, _, h⟩ := this; exact h))
  have HI := Lib.hid (fun W (hB : Below w.heap.size w W) => iSplitOf_yes s l j s' l' j' W hs (HEW.out.below hB (by have := HEW.out; obtain ⟨_, _, _, h⟩ := this; exact h)))
  have HS := Lib.hid (fun W => sSplitOf_yes s l j s' l' j' W hs)
  have HSP := Lib.hid hs
  obtain ⟨A, hA⟩ : ∃ A, A = gn s l j := ⟨_, rfl⟩
  obtain ⟨C, hC⟩ : ∃ C, C = gn s' l' j' := ⟨_, rfl⟩
  obtain ⟨xs, hxs⟩ : ∃ xs, xs = splitS s l j s' l' j' := ⟨_, rfl⟩
  have hxl : xs = splitL j j' A C := by rw [hxs, hA, hC]; rfl
  rw [← hxs] at HI HS
  rw [← hA, ← hC] at P
  have HA := Lib.hid hA
  have HC' := Lib.hid hC
  have HXL := Lib.hid hxl
  have HSS := Lib.hid (fun W v1 v2 h1 h2 => RowsSplit.sameSplits xs v1 v2 W h1 h2)
  have hlen := P.len_is
  rw [← hxl] at hlen
  have HP := Lib.hid P
  clear hs HE hA hC hxs hxl
  have LV0 := lv6_two w s l j s' l' j'
  have BZ0 : Below w.heap.size w ((w.alloc (.cells #[.int .i64 s, .int .i64 l, .int .i64 j] 26)).alloc (.cells #[.int .i64 s', .int .i64 l', .int .i64 j'] 26)) := (by repeat (first | (with_reducible refine Below.drew ?_) | (with_reducible refine below_drewN ?_ _) | (with_reducible refine Below.alloc ?_ ?_ _) | (with_reducible refine Below.setCell ?_ ?_ _) | (with_reducible assumption) | (with_reducible exact Below.refl _ _) | omega | (simp <;> omega)))
  have hz0 : ((w.alloc (.cells #[.int .i64 s, .int .i64 l, .int .i64 j] 26)).alloc (.cells #[.int .i64 s', .int .i64 l', .int .i64 j'] 26)).heap.size = w.heap.size + 2 := by simp
  have HZ0 := Lib.hid hz0
  clear hz0
  go_wp2_with fail
  (with_reducible refine (HI.out _ BZ0).mono ?_)
  rintro e w1 ⟨v1, rfl, O1, b1⟩
  have B1 := BZ0.trans (b1.mono BZ0.size)
  have LV1 := LV0.below b1 (by have := HZ0.out; omega) (by have := HZ0.out; omega)
  have S1 := Sees.of_own O1
  clear b1 LV0 BZ0 HZ0 O1
  have HL1 := Lib.hid LV1
  obtain ⟨x0, x1, x2, y0, y1, y2, lx, ly⟩ := LV1
  go_wp2_with fail
  (with_reducible refine (HS.out _).mono ?_)
  rintro e w2 ⟨v2, rfl, O2, b2⟩
  have B2 := B1.trans (b2.mono B1.size)
  have S1 := S1.below b2 (Nat.le_refl _)
  have S2 := Sees.of_own O2
  have HL2 := Lib.hid (HL1.out.below b2 lx ly)
  clear b2 B1 O2 HL1 x0 x1 x2 y0 y1 y2 lx ly
  go_wp2_with fail
  (with_reducible refine (HSS.out _ _ _ S1 S2).mono ?_)
  rintro e w3 ⟨rfl, b3⟩
  have B3 := B2.trans (b3.mono B2.size)
  have HL3 := Lib.hid (HL2.out.below b3 HL2.out.2.2.2.2.2.2.1 HL2.out.2.2.2.2.2.2.2)
  have S1 := S1.below b3 (Nat.le_refl _)
  clear b3 B2 S2 HL2 HSS
  obtain ⟨m, hm⟩ : ∃ m, m = xs.length := ⟨_, rfl⟩
  have HM := Lib.hid hm
  rw [← hm] at hlen
  obtain ⟨hm19, hm0, hml⟩ := hlen
  have HML := Lib.hid hml
  obtain ⟨b, o, c', rfl, hnc, hcm, hb, hcell⟩ : ∃ b o c', v1 = .slice (some ⟨b, o, none⟩) m c' ∧ m ≤ c' ∧ c' ≤ maxLen ∧ b < w3.heap.size ∧ ∀ i, i < xs.length * 6 → w3.cell? ⟨b, o + i, none⟩ = (xs.flatMap encSp)[i]? := by
    rcases S1.2 with ⟨h0, _⟩ | ⟨b, o, c', rfl, h1, h2, h3, h4⟩
    · omega
    · exact ⟨b, o, c', by rw [hm], by omega, h2, h3, h4⟩
  unfold maxLen at hcm
  have HC := Lib.hid hcell
  have B3' := B0.trans (B3.mono B0.size)
  have hw3 : 1 < w3.heap.size := Nat.lt_of_lt_of_le (by have := HEW.out; obtain ⟨_, _, _, h⟩ := this; exact h) B3.size
  have HB3 := Lib.hid B3'
  have HE3 := Lib.hid (HEW.out.below B3 (by have := HEW.out; obtain ⟨_, _, _, h⟩ := this; exact h))
  clear hm hcell S1 hml P HI HS HEW B0 B3 B3'
  have LP := splitOk_pair HSP.out
  obtain ⟨rG, rH, rA, rB, rC, rK, rD, rE, rW, rF, eG, eH, eA, eB, eC, eK, eD, eE, eW, eF, ⟨kG, kH, kA, kB, kC, kK, kD, kE, kW, kF⟩, hend⟩ := HP.out.mean_end
  have hx6 := HP.out.hx
  have hy6 := HP.out.hy
  have eG' : facR s l j = rG := by rw [eG, HA.out]; rfl
  have eH' : facR s' l' j' = rH := by rw [eH, HC'.out]; rfl
  have hg0 : j = 0 → rG = ⟨0, 1, true⟩ := by intro h; rw [← eG', h]; exact fac_zero s l
  have hh0 : j' = 0 → rH = ⟨0, 1, true⟩ := by intro h; rw [← eH', h]; exact fac_zero s' l'
  have hF1 := fun (hj : ¬ j = 0) W (hB : Below w3.heap.size w3 W) => show Calls Tryd.prog 13 #[.agg #[.int .i64 s, .int .i64 l, .int .i64 j]] W (Gives (roV rG) W) from by
    have h := iFactorOf s l j LP.a W (HE3.out.below hB hw3)
    rw [if_neg hj, eG'] at h
    exact h
  have hF2 := fun (hj : ¬ j' = 0) W (hB : Below w3.heap.size w3 W) => show Calls Tryd.prog 13 #[.agg #[.int .i64 s', .int .i64 l', .int .i64 j']] W (Gives (roV rH) W) from by
    have h := iFactorOf s' l' j' LP.b W (HE3.out.below hB hw3)
    rw [if_neg hj, eH'] at h
    exact h
  obtain ⟨mvf, hmvf⟩ : ∃ f : Int → Nat → Ro, f = fun k q => mv j j' A C k q := ⟨_, rfl⟩
  have hm20 : mvf 2 0 = ⟨0, 1, true⟩ := by rw [hmvf]; exact mv_zero HP.out 2
  have hm00 : mvf 0 0 = ⟨0, 1, true⟩ := by rw [hmvf]; exact mv_zero HP.out 0
  have hm2e : mvf 2 m = rF := by rw [hmvf]; exact (hend m (by rw [HM.out, HXL.out]; exact Nat.le_refl _)).1
  have hm0e : mvf 0 m = ⟨0, 1, true⟩ := by rw [hmvf]; exact (hend m (by rw [HM.out, HXL.out]; exact Nat.le_refl _)).2
  have hmok : ∀ k q, k = 0 ∨ k = 2 → q ≤ 19 → (mvf k q).ok = true := by rw [hmvf]; exact fun k q h hq => p_mv_ok HP.out h hq
  have hstep : ∀ q (hq : q < xs.length), ∃ z : Ro, z.ok = true ∧ mulR xs[q].p xs[q].q xs[q].s xs[q].t = z ∧ ∀ k : Int, k = 0 ∨ k = 2 → (xs[q].u - xs[q].l = k → addQ (mvf k q) z = mvf k (q + 1)) ∧ (¬ xs[q].u - xs[q].l = k → mvf k (q + 1) = mvf k q) := by
    have hx := HXL.out
    have hP := HP.out
    clear HXL HC HM
    subst hx
    rw [hmvf]
    intro q hq
    exact p_mv_step hP hq
  have hud : ∀ q (hq : q < xs.length), (-6 ≤ xs[q].u ∧ xs[q].u ≤ 6) ∧ (-6 ≤ xs[q].l ∧ xs[q].l ≤ 6) ∧ (xs[q].u - xs[q].l = -2 ∨ xs[q].u - xs[q].l = 0 ∨ xs[q].u - xs[q].l = 2) := by
    have hx := HXL.out
    have hP := HP.out
    clear HXL HC HM
    subst hx
    intro q hq
    obtain ⟨e, he, _, h2⟩ := hP.get hq
    rw [h2]
    have hb := hP.bd he
    exact ⟨hb.1, hb.2.1, hb.2.2.2.2⟩
  have HUD := Lib.hid hud
  have HST := Lib.hid hstep
  have HOK := Lib.hid hmok
  have HM2E := Lib.hid hm2e
  have HM0E := Lib.hid hm0e
  have HM20 := Lib.hid hm20
  have HM00 := Lib.hid hm00
  have hp1 := mul_bds (a := j) (b := j + 2) (A := 6) (B := 8) (by omega) (by omega) (by omega) (by omega) (by omega)
  have hp2 := mul_bds (a := j') (b := j' + 2) (A := 6) (B := 8) (by omega) (by omega) (by omega) (by omega) (by omega)
  have eK' : mkR (j * (j + 2) - j' * (j' + 2)) 16 = rK := by rw [eK]; rfl
  obtain ⟨p1, q1⟩ : ∃ x, x = j * (j + 2) := ⟨_, rfl⟩
  obtain ⟨p2, q2⟩ : ∃ x, x = j' * (j' + 2) := ⟨_, rfl⟩
  rw [← q1] at hp1 eK'
  rw [← q2] at hp2 eK'
  have hK := fun W => iRatOf (p1 - p2) 16 W (by omega) (by omega)
  rw [eK'] at hK
  have hW := fun W => iRatOf (j + 1) 3 W (by omega) (by omega)
  rw [← eW] at hW
  have hHF : facR s' l' j' = rH := eH'
  clear hud hstep hmok hm2e hm0e hm20 hm00 hend hmvf eG eH eK eK' eW eG' eH' LP
  have hhb : -1000000000 ≤ rH.n ∧ rH.n ≤ 1000000000 := by
    rw [← hHF]
    exact (mk_bds (a := SplitP.gn s' l' j') (b := gd j') ⟨by have := HP.out.hc; rw [HC'.out] at this; omega, by have := gd_bd hy6; omega⟩).1
  clear hHF
  obtain ⟨gn, gd', gk⟩ := rG
  obtain ⟨hn', hd', hk⟩ := rH
  obtain ⟨an, ad, ak⟩ := rA
  obtain ⟨bn, bd, bk⟩ := rB
  obtain ⟨cn, cd', ck⟩ := rC
  obtain ⟨kn, kd, kk'⟩ := rK
  obtain ⟨dn, dd, dk⟩ := rD
  obtain ⟨en, ed, ek⟩ := rE
  obtain ⟨wn', wd', wk⟩ := rW
  obtain ⟨fn', fd', fk⟩ := rF
  simp only at hhb
  simp only at kG kH kA kB kC kK kD kE kW kF
  subst kG kH kA kB kC kK kD kE kW kF
  have hAC := fun W => iRatAdd gn gd' hn' hd' W
  have hBC := fun W => iRatMul an ad 1 2 W
  have hCC := fun W => iRatSub gn gd' hn' hd' W (by omega) (by omega)
  have hDC := fun W => iRatMul cn cd' kn kd W
  have hEC := fun W => iRatAdd bn bd dn dd W
  have hFC := fun W => iRatMul en ed wn' wd' W
  rw [show addR gn gd' hn' hd' = ⟨an, ad, true⟩ from eA.symm] at hAC
  rw [show mulR an ad 1 2 = ⟨bn, bd, true⟩ from eB.symm] at hBC
  rw [show subR gn gd' hn' hd' = ⟨cn, cd', true⟩ from eC.symm] at hCC
  rw [show mulR cn cd' kn kd = ⟨dn, dd, true⟩ from eD.symm] at hDC
  rw [show addR bn bd dn dd = ⟨en, ed, true⟩ from eE.symm] at hEC
  rw [show mulR en ed wn' wd' = ⟨fn', fd', true⟩ from eF.symm] at hFC
  unfold roV at hF1 hF2 hK hW hAC hBC hCC hDC hEC hFC
  have HF1 := Lib.hid hF1
  have HF2 := Lib.hid hF2
  have HK := Lib.hid hK
  have HW := Lib.hid hW
  have HAC := Lib.hid hAC
  have HQC := Lib.hid hBC
  have HCC := Lib.hid hCC
  have HDC := Lib.hid hDC
  have HEC := Lib.hid hEC
  have HFC := Lib.hid hFC
  have HW0 := Lib.hid (fun W => lwhole 0 W)
  have HQ1 := Lib.hid q1
  have HQ2 := Lib.hid q2
  have HG0 := Lib.hid hg0
  have HH0 := Lib.hid hh0
  obtain ⟨j0, j6⟩ := hx6
  obtain ⟨j0', j6'⟩ := hy6
  have hBz := Below.refl w3.heap.size w3
  have HBB := Lib.hid hBz
  clear hF1 hF2 hK hW hAC hBC hCC hDC hEC hFC eA eB eC eD eE eF q1 q2 hg0 hh0 hBz
  go_wp2_with fail
  (with_reducible refine (HW0.out _).mono ?_)
  rintro e wa21 ⟨rfl, ba⟩
  replace HBB := Lib.hid (HBB.out.trans (ba.mono HBB.out.size))
  clear ba 
  go_upto_region 9 with fail
  have gHT9 := HBB.out.size
  obtain ⟨wb21, hwn⟩ : ∃ W : World, W = wa21.alloc (.cells #[.int .i64 (0), .int .i64 (1)] 34) := ⟨_, rfl⟩
  have HT9 : Hid (Two wb21 wa21.heap.size (0) (1)) := Lib.hid (by rw [hwn]; exact Two.new _ _ _ _)
  replace HBB : Hid (Below w3.heap.size w3 wb21) := Lib.hid (by rw [hwn]; exact HBB.out.alloc HBB.out.size _)
  rw [← hwn]
  obtain ⟨bHT9, hbn⟩ : ∃ x, x = wa21.heap.size := ⟨_, rfl⟩
  rw [← hbn] at HT9 gHT9 ⊢
  clear hwn hbn
  go_wp2_with fail
  (with_reducible refine (HW0.out _).mono ?_)
  rintro e wa22 ⟨rfl, ba⟩
  replace HT9 := Lib.hid (HT9.out.below ba HT9.out.2.2.2.2)
  replace HBB := Lib.hid (HBB.out.trans (ba.mono HBB.out.size))
  clear ba 
  go_upto_region 10 with fail
  have qHTM_HT9 := HT9.out.2.2.2.2
  have gHTM := HBB.out.size
  obtain ⟨wb22, hwn⟩ : ∃ W : World, W = wa22.alloc (.cells #[.int .i64 (0), .int .i64 (1)] 34) := ⟨_, rfl⟩
  have HTM : Hid (Two wb22 wa22.heap.size (0) (1)) := Lib.hid (by rw [hwn]; exact Two.new _ _ _ _)
  replace HT9 : Hid (Two wb22 bHT9 (0) (1)) := Lib.hid (by rw [hwn]; exact HT9.out.alloc _)
  replace HBB : Hid (Below w3.heap.size w3 wb22) := Lib.hid (by rw [hwn]; exact HBB.out.alloc HBB.out.size _)
  rw [← hwn]
  obtain ⟨bHTM, hbn⟩ : ∃ x, x = wa22.heap.size := ⟨_, rfl⟩
  rw [← hbn] at HTM gHTM qHTM_HT9 ⊢
  clear hwn hbn
  obtain ⟨_, _, x2, _, _, _, lx, _⟩ := HL3.out.below HBB.out HL3.out.2.2.2.2.2.2.1 HL3.out.2.2.2.2.2.2.2
  go_upto_if 80 with fail
  have L9 := Lib.hid HT9.out.2.2.2.2
  clear x2 lx
  go_cut [11] (fun s1 wx => s1 = .bool true ∧ Two wx bHT9 gn gd' ∧ Two wx bHTM 0 1 ∧ Below bHT9 wb22 wx)
  case first =>
    have ok4 := HTM.out.2.2.2.2
    have ok5 := HT9.out.2.2.2.2
    by_cases hj : j = 0
    · have hjd : decide (0 < j) = false := decide_eq_false (by omega)
      have hjn : ¬ 0 < j := by omega
      have hz := HG0.out hj
      injection hz with hz1 hz2 hz3
      clear hj
      go_wp2_with fail
      go_meet
      exact ⟨rfl, by rw [hz1, hz2]; exact HT9.out, HTM.out, Below.refl _ _⟩
    · have hjd : decide (0 < j) = true := decide_eq_true (by omega)
      have hjp : 0 < j := by omega
      obtain ⟨x0, x1, x2, y0, y1, y2, lx, ly⟩ := HL3.out.below HBB.out HL3.out.2.2.2.2.2.2.1 HL3.out.2.2.2.2.2.2.2
      go_wp2_with fail
      (with_reducible refine (HF1.out hj _ HBB.out).mono ?_)
      rintro e wf ⟨rfl, bf⟩
      obtain ⟨k0, k1, k2, k3, k4⟩ := HT9.out.below bf ok5
      clear x0 x1 x2 y0 y1 y2 lx ly
      go_wp2_with fail
      go_meet
      exact ⟨rfl, (HT9.out.below bf ok5).put _ _, ((HTM.out.below bf ok4).set (Nat.ne_of_lt qHTM_HT9) _).set (Nat.ne_of_lt qHTM_HT9) _, ((bf.mono (Nat.le_of_lt L9.out)).setCell (Nat.le_refl _) _).setCell (Nat.le_refl _) _⟩
  case rest =>
    obtain ⟨rfl, T9, TM, bc⟩ := hcut
    obtain ⟨w10, rfl⟩ : ∃ x : World, x = wc := ⟨_, rfl⟩
    replace HT9 := Lib.hid T9
    replace HTM := Lib.hid TM
    replace HBB := Lib.hid (HBB.out.trans (bc.mono gHT9))
    replace L9 := Lib.hid HT9.out.2.2.2.2
    clear T9 TM bc HF1 HG0
    obtain ⟨_, _, _, _, _, y2, _, ly⟩ := HL3.out.below HBB.out HL3.out.2.2.2.2.2.2.1 HL3.out.2.2.2.2.2.2.2
    go_upto_if 88 with fail
    clear y2 ly
    go_cut [11] (fun s1 wx => s1 = .bool true ∧ Two wx bHTM hn' hd' ∧ Two wx bHT9 gn gd' ∧ Below bHT9 w10 wx)
    case first =>
      have ok4 := HT9.out.2.2.2.2
      have ok5 := HTM.out.2.2.2.2
      by_cases hj : j' = 0
      · have hjd : decide (0 < j') = false := decide_eq_false (by omega)
        have hjn : ¬ 0 < j' := by omega
        have hz := HH0.out hj
        injection hz with hz1 hz2 hz3
        clear hj
        go_wp2_with fail
        go_meet
        exact ⟨rfl, by rw [hz1, hz2]; exact HTM.out, HT9.out, Below.refl _ _⟩
      · have hjd : decide (0 < j') = true := decide_eq_true (by omega)
        have hjp : 0 < j' := by omega
        obtain ⟨x0, x1, x2, y0, y1, y2, lx, ly⟩ := HL3.out.below HBB.out HL3.out.2.2.2.2.2.2.1 HL3.out.2.2.2.2.2.2.2
        go_wp2_with fail
        (with_reducible refine (HF2.out hj _ HBB.out).mono ?_)
        rintro e wf ⟨rfl, bf⟩
        obtain ⟨k0, k1, k2, k3, k4⟩ := HTM.out.below bf ok5
        have hbs := bf.size
        have hle : bHT9 ≤ wf.heap.size := Nat.le_trans (Nat.le_of_lt ok4) hbs
        clear x0 x1 x2 y0 y1 y2 lx ly
        go_wp2_with fail
        go_meet
        exact ⟨rfl, ((HTM.out.below bf ok5).put _ _).alloc _, (((HT9.out.below bf ok4).set (Nat.ne_of_gt qHTM_HT9) _).set (Nat.ne_of_gt qHTM_HT9) _).alloc _, (((bf.mono (Nat.le_of_lt L9.out)).setCell (Nat.le_of_lt qHTM_HT9) _).setCell (Nat.le_of_lt qHTM_HT9) _).alloc (by first | exact hle | (simp; omega)) _⟩
    case rest =>
      obtain ⟨rfl, TM, T9, bc⟩ := hcut
      obtain ⟨w11, rfl⟩ : ∃ x : World, x = wc := ⟨_, rfl⟩
      replace HT9 := Lib.hid T9
      replace HTM := Lib.hid TM
      replace HBB := Lib.hid (HBB.out.trans (bc.mono gHT9))
      clear T9 TM bc HF2 HH0 L9
      go_wp2_with fail
      (with_reducible refine (HW0.out _).mono ?_)
      rintro e wa61 ⟨rfl, ba⟩
      replace HT9 := Lib.hid (HT9.out.below ba HT9.out.2.2.2.2)
      replace HTM := Lib.hid (HTM.out.below ba HTM.out.2.2.2.2)
      replace HBB := Lib.hid (HBB.out.trans (ba.mono HBB.out.size))
      clear ba 
      go_upto_region 18 with fail
      have qHT14_HT9 := HT9.out.2.2.2.2
      have qHT14_HTM := HTM.out.2.2.2.2
      have gHT14 := HBB.out.size
      obtain ⟨wb61, hwn⟩ : ∃ W : World, W = wa61.alloc (.cells #[.int .i64 (0), .int .i64 (1)] 34) := ⟨_, rfl⟩
      have HT14 : Hid (Two wb61 wa61.heap.size (0) (1)) := Lib.hid (by rw [hwn]; exact Two.new _ _ _ _)
      replace HT9 : Hid (Two wb61 bHT9 (gn) (gd')) := Lib.hid (by rw [hwn]; exact HT9.out.alloc _)
      replace HTM : Hid (Two wb61 bHTM (hn') (hd')) := Lib.hid (by rw [hwn]; exact HTM.out.alloc _)
      replace HBB : Hid (Below w3.heap.size w3 wb61) := Lib.hid (by rw [hwn]; exact HBB.out.alloc HBB.out.size _)
      rw [← hwn]
      obtain ⟨bHT14, hbn⟩ : ∃ x, x = wa61.heap.size := ⟨_, rfl⟩
      rw [← hbn] at HT14 gHT14 qHT14_HT9 qHT14_HTM ⊢
      clear hwn hbn
      go_wp2_with fail
      (with_reducible refine (HW0.out _).mono ?_)
      rintro e wa62 ⟨rfl, ba⟩
      replace HT9 := Lib.hid (HT9.out.below ba HT9.out.2.2.2.2)
      replace HTM := Lib.hid (HTM.out.below ba HTM.out.2.2.2.2)
      replace HT14 := Lib.hid (HT14.out.below ba HT14.out.2.2.2.2)
      replace HBB := Lib.hid (HBB.out.trans (ba.mono HBB.out.size))
      clear ba 
      go_upto_region 19 with fail
      have qHT15_HT14 := HT14.out.2.2.2.2
      have gHT15 := HBB.out.size
      obtain ⟨wb62, hwn⟩ : ∃ W : World, W = wa62.alloc (.cells #[.int .i64 (0), .int .i64 (1)] 34) := ⟨_, rfl⟩
      have HT15 : Hid (Two wb62 wa62.heap.size (0) (1)) := Lib.hid (by rw [hwn]; exact Two.new _ _ _ _)
      replace HT9 : Hid (Two wb62 bHT9 (gn) (gd')) := Lib.hid (by rw [hwn]; exact HT9.out.alloc _)
      replace HTM : Hid (Two wb62 bHTM (hn') (hd')) := Lib.hid (by rw [hwn]; exact HTM.out.alloc _)
      replace HT14 : Hid (Two wb62 bHT14 (0) (1)) := Lib.hid (by rw [hwn]; exact HT14.out.alloc _)
      replace HBB : Hid (Below w3.heap.size w3 wb62) := Lib.hid (by rw [hwn]; exact HBB.out.alloc HBB.out.size _)
      rw [← hwn]
      obtain ⟨bHT15, hbn⟩ : ∃ x, x = wa62.heap.size := ⟨_, rfl⟩
      rw [← hbn] at HT15 gHT15 qHT15_HT14 ⊢
      clear hwn hbn
      have hbT : b < bHT14 := Nat.lt_of_lt_of_le hb gHT14
      go_wp2
      go_loopw [11, 16] (fun f i wr => ∃ q : Nat, q ≤ m ∧ f = .bool true ∧ i = .int .i64 q ∧ Two wr bHT14 (mvf 2 q).n (mvf 2 q).d ∧ Two wr bHT15 (mvf 0 q).n (mvf 0 q).d ∧ Below bHT14 wb62 wr) (fun _ i _ => m - (intOf i).toNat)
      case atStart => exact ⟨0, by omega, rfl, rfl, by rw [HM20.out]; exact HT14.out, by rw [HM00.out]; exact HT15.out, Below.refl _ _⟩
      case round =>
        obtain ⟨i, hi, rfl, rfl, hA, hM, hB⟩ := hrel
        have HA14 := Lib.hid hA
        have HA15 := Lib.hid hM
        have HBR := Lib.hid hB
        clear hA hM
        by_cases hlt : i < m
        · have hi1 : (i : Int) < (m : Int) := by omega
          have hil : i < xs.length := by have := HM.out; omega
          have hbw : b < wr.heap.size := Nat.lt_of_lt_of_le (Nat.lt_of_lt_of_le hb HBB.out.size) hB.size
          obtain ⟨u0, u1, u2, u3, u4, u5⟩ := RowsSplit.at_Split (w := wr) (xs := xs) (b := b) (o := o) (fun q hq => (hB.cell (p := ⟨b, o + q, none⟩) hbT).trans ((HBB.out.cell (p := ⟨b, o + q, none⟩) hb).trans (HC.out q hq))) i hil
          obtain ⟨z, hz, hmul, hst⟩ := HST.out i hil
          obtain ⟨⟨g0, g1⟩, ⟨g2, g3⟩, hd⟩ := HUD.out i hil
          obtain ⟨hy2, hn2⟩ := hst 2 (.inr rfl)
          obtain ⟨hy0, hn0⟩ := hst 0 (.inl rfl)
          have hk2 := HOK.out 2 (i + 1) (.inr rfl) (by omega)
          have hk0 := HOK.out 0 (i + 1) (.inl rfl) (by omega)
          generalize xs[i] = e at *
          obtain ⟨eu, el, ep, eq, es, et⟩ := e
          simp only at u0 u1 u2 u3 u4 u5 hmul hy2 hn2 hy0 hn0 hd g0 g1 g2 g3
          generalize hr2 : mvf 2 (i + 1) = r2 at *
          generalize hr0 : mvf 0 (i + 1) = r0 at *
          generalize mvf 2 i = a2 at *
          generalize mvf 0 i = a0 at *
          obtain ⟨zn, zd, zk⟩ := z
          obtain ⟨an2, ad2, ak2⟩ := a2
          obtain ⟨an0, ad0, ak0⟩ := a0
          simp only at hz
          subst hz
          have hRM := fun W => iRatMul ep eq es et W
          rw [hmul] at hRM
          unfold roV at hRM
          have HRM := Lib.hid hRM
          have HR2 := Lib.hid hr2
          have HR0 := Lib.hid hr0
          have HY2 := Lib.hid hy2
          have HN2 := Lib.hid hn2
          have HY0 := Lib.hid hy0
          have HN0 := Lib.hid hn0
          have HK2 := Lib.hid hk2
          have HK0 := Lib.hid hk0
          have HD := Lib.hid hd
          clear hRM hr2 hr0 hy2 hn2 hy0 hn0 hk2 hk0 hd hmul hst hB
          go_wp2_with fail
          go_upto_region 22 with fail
          go_cut [17, 18] (fun s1 s2 wx => ∃ T : Nat, s1 = .pointer (some ⟨T, 0, none⟩) ∧ s2 = .bool true ∧ Two wx T zn zd ∧ wr.heap.size ≤ T ∧ Below wr.heap.size wr wx)
          case first =>
            clear HXL HP HA HC' HC HE3 HSP HB3 HML HM HUD HST HOK HM2E HM0E HM20 HM00 HAC HQC HCC HDC HEC HFC HK HW HW0 HQ1 HQ2 HT9 HTM HT14 HT15 HBB HL3 HR2 HR0 HY2 HN2 HY0 HN0 HK2 HK0 HD HA14 HA15 HBR u0 u1 g0 g1 g2 g3
            have Z0u2 := Lib.hid u2
            have Z0u3 := Lib.hid u3
            have Z0u4 := Lib.hid u4
            have Z0u5 := Lib.hid u5
            go_region_held3 (fun w' => w'.cell? ⟨b, o + i * 6 + 2, none⟩ = some (.int .i64 (ep)) ∧ w'.cell? ⟨b, o + i * 6 + 3, none⟩ = some (.int .i64 (eq)) ∧ w'.cell? ⟨b, o + i * 6 + 4, none⟩ = some (.int .i64 (es)) ∧ w'.cell? ⟨b, o + i * 6 + 5, none⟩ = some (.int .i64 (et)))
              (first | with_reducible exact ⟨u2, u3, u4, u5⟩ | (refine ⟨?_, ?_, ?_, ?_⟩ <;> (repeat (first | (with_reducible assumption) | (with_reducible refine cd ?_) | (with_reducible refine ca ?_ (by first | omega | (simp <;> omega)) _) | (with_reducible refine cs ?_ (by first | omega | (simp <;> omega)) _)))))
              (first | (go_at_call 14; (with_reducible refine (HRM.out _).mono ?_); rintro e wq1 ⟨rfl, bq1⟩; have BQ1 : Below wr.heap.size wr wq1 := Below.trans (by repeat (first | (with_reducible refine Below.drew ?_) | (with_reducible refine below_drewN ?_ _) | (with_reducible refine Below.alloc ?_ ?_ _) | (with_reducible refine Below.setCell ?_ ?_ _) | (with_reducible assumption) | (with_reducible exact Below.refl _ _) | omega | (simp <;> omega))) (bq1.mono (by first | omega | (simp <;> omega))); have hq1 := BQ1.size; have hr1 := bq1.size; (try simp at hr1); have u2 := (BQ1.cell (p := ⟨b, o + i * 6 + 2, none⟩) hbw).trans Z0u2.out; have u3 := (BQ1.cell (p := ⟨b, o + i * 6 + 3, none⟩) hbw).trans Z0u3.out; have u4 := (BQ1.cell (p := ⟨b, o + i * 6 + 4, none⟩) hbw).trans Z0u4.out; have u5 := (BQ1.cell (p := ⟨b, o + i * 6 + 5, none⟩) hbw).trans Z0u5.out; (try (have TB1_0 : Two wq1 (wr.heap.size) 0 0 := (by first | ((repeat (first | (with_reducible assumption) | (with_reducible exact Two.new _ _ _ _) | (with_reducible exact two_new1 _ _ _ _ _) | (with_reducible refine Two.put (x := 0) (y := 0) ?_ _ _) | (with_reducible refine Two.drew ?_) | ((with_reducible refine two_at _ _ _ ?_); (simp; done)) | (with_reducible refine Two.alloc ?_ _) | (with_reducible refine two_below bq1 ?_) | (with_reducible refine Two.set ?_ (by first | omega | (simp <;> omega)) _))); done) | fail); have TH1_0 := Lib.hid TB1_0; obtain ⟨tc1_0, td1_0, tf1_0, tg1_0, tl1_0⟩ := TB1_0; have TB1_0 := TH1_0.out)); skip))
            all_goals go_wp2_with fail
            all_goals go_meet
            all_goals (refine ⟨_, rfl, rfl, ?_, ?_, ?_⟩)
            all_goals first | ((repeat (first | (with_reducible refine Below.drew ?_) | (with_reducible refine below_drewN ?_ _) | (with_reducible refine Below.alloc ?_ ?_ _) | (with_reducible refine Below.setCell ?_ ?_ _) | (with_reducible assumption) | (with_reducible exact Below.refl _ _) | omega | (simp <;> omega))); done) | ((repeat (first | (with_reducible assumption) | (with_reducible exact Two.new _ _ _ _) | (with_reducible exact two_new1 _ _ _ _ _) | (with_reducible refine Two.put (x := 0) (y := 0) ?_ _ _) | (with_reducible refine Two.drew ?_) | ((with_reducible refine two_at _ _ _ ?_); (simp; done)) | (with_reducible refine Two.alloc ?_ _) | (with_reducible refine two_below bq1 ?_) | (with_reducible refine Two.set ?_ (by first | omega | (simp <;> omega)) _))); done) | (trace_state; fail)
          case rest =>
            obtain ⟨Twn, rfl, rfl, TwnB, hwn, bwn⟩ := hcut
            obtain ⟨wn, rfl⟩ : ∃ x : World, x = wc := ⟨_, rfl⟩
            have l14 : bHT14 < wr.heap.size := HA14.out.2.2.2.2
            replace HA14 := Lib.hid (HA14.out.below bwn HA14.out.2.2.2.2)
            replace HA15 := Lib.hid (HA15.out.below bwn HA15.out.2.2.2.2)
            replace HBR := Lib.hid (HBR.out.trans (bwn.mono (Nat.le_of_lt l14)))
            have u0 := (bwn.cell (p := ⟨b, o + i * 6, none⟩) hbw).trans u0
            have u1 := (bwn.cell (p := ⟨b, o + i * 6 + 1, none⟩) hbw).trans u1
            have hbw : b < wn.heap.size := Nat.lt_of_lt_of_le hbw bwn.size
            have l14 : bHT14 < wn.heap.size := HA14.out.2.2.2.2
            have HTZ := Lib.hid TwnB
            clear bwn u2 u3 u4 u5 HRM TwnB
            rcases HD.out with hd | hd | hd
            · have hdd : eu - el = -2 := hd
              have he1 : (eu == el) = false := by rw [beq_eq_false_iff_ne]; omega
              have he2 : decide (eu = el) = false := decide_eq_false (by omega)
              have hx2 : ¬ eu = el := by omega
              have hwx : IntKind.i64.wrap (-2) = -2 := IntWalk.i64_in _ (by omega)
              as_aux_lemma =>
                have e2 := HN2.out (by omega)
                have e0 := HN0.out (by omega)
                have HE2 := Lib.hid e2
                have HE0 := Lib.hid e0
                clear hd e2 e0
                go_wp2_with fail
                go_upto_region 24 with fail
                have f0 : ∀ p : Later wn.heap.size wn, p.W.cell? ⟨b, o + i * 6, none⟩ = some (.int .i64 (eu)) := Later.cell u0 hbw
                have f1 : ∀ p : Later wn.heap.size wn, p.W.cell? ⟨b, o + i * 6 + 1, none⟩ = some (.int .i64 (el)) := Later.cell u1 hbw
                refine Later.wp_region_later (wn.heap.size) (by kernel_rfl) (by kernel_rfl) ?_
                repeat (first | go_big_quiet_step ((fail)) | quiet_step ((fail)))
                refine wpQuiet_nil ?_
                rintro w5 ⟨q5, hq5⟩
                have b5 := q5.h
                rw [← hq5] at b5
                clear hq5 q5
                replace HA14 := Lib.hid (HA14.out.below b5 HA14.out.2.2.2.2)
                replace HA15 := Lib.hid (HA15.out.below b5 HA15.out.2.2.2.2)
                replace HTZ := Lib.hid (HTZ.out.below b5 HTZ.out.2.2.2.2)
                replace HBR := Lib.hid (HBR.out.trans (b5.mono (Nat.le_of_lt l14)))
                have u0 := (b5.cell (p := ⟨b, o + i * 6, none⟩) hbw).trans u0
                have u1 := (b5.cell (p := ⟨b, o + i * 6 + 1, none⟩) hbw).trans u1
                have hbw : b < w5.heap.size := Nat.lt_of_lt_of_le hbw b5.size
                clear f0 f1 b5
                go_wp2_with fail
                go_upto_region 26 with fail
                have f0 : ∀ p : Later w5.heap.size w5, p.W.cell? ⟨b, o + i * 6, none⟩ = some (.int .i64 (eu)) := Later.cell u0 hbw
                have f1 : ∀ p : Later w5.heap.size w5, p.W.cell? ⟨b, o + i * 6 + 1, none⟩ = some (.int .i64 (el)) := Later.cell u1 hbw
                refine Later.wp_region_later (w5.heap.size) (by kernel_rfl) (by kernel_rfl) ?_
                repeat (first | go_big_quiet_step ((fail)) | quiet_step ((fail)))
                refine wpQuiet_nil ?_
                rintro w6 ⟨q6, hq6⟩
                have b6 := q6.h
                rw [← hq6] at b6
                clear hq6 q6
                have T2 : Two w6 bHT14 (mvf 2 (i + 1)).n (mvf 2 (i + 1)).d := by rw [HR2.out, HE2.out]; exact HA14.out.below b6 HA14.out.2.2.2.2
                have T0 : Two w6 bHT15 (mvf 0 (i + 1)).n (mvf 0 (i + 1)).d := by rw [HR0.out, HE0.out]; exact HA15.out.below b6 HA15.out.2.2.2.2
                have B6 := HBR.out.trans (b6.mono (Nat.le_of_lt HA14.out.2.2.2.2))
                clear f0 f1 b6 u0 u1
                go_wp2
                go_roundw
                case rel => exact ⟨i + 1, by omega, rfl, by go_num, T2, T0, B6⟩
                case measure => simp [intOf]; omega
            · obtain rfl : eu = el := by omega
              as_aux_lemma =>
                have hdd : eu - eu = 0 := by omega
                have e2 := HN2.out (by omega)
                have HE2 := Lib.hid e2
                obtain ⟨n0n, n0d, n0k⟩ := r0
                have hk0 : n0k = true := HK0.out
                subst hk0
                have HAD := Lib.hid (fun W => laddTo an0 ad0 zn zd ⟨n0n, n0d, true⟩ (HY0.out hdd) rfl W)
                clear hd e2
                go_wp2_with fail
                go_upto_region 24 with fail
                have f0 : ∀ p : Later wn.heap.size wn, p.W.cell? ⟨b, o + i * 6, none⟩ = some (.int .i64 (eu)) := Later.cell u0 hbw
                have f1 : ∀ p : Later wn.heap.size wn, p.W.cell? ⟨b, o + i * 6 + 1, none⟩ = some (.int .i64 (eu)) := Later.cell u1 hbw
                refine Later.wp_region_later (wn.heap.size) (by kernel_rfl) (by kernel_rfl) ?_
                repeat (first | go_big_quiet_step ((fail)) | quiet_step ((fail)))
                refine wpQuiet_nil ?_
                rintro w5 ⟨q5, hq5⟩
                have b5 := q5.h
                rw [← hq5] at b5
                clear hq5 q5
                replace HA14 := Lib.hid (HA14.out.below b5 HA14.out.2.2.2.2)
                replace HA15 := Lib.hid (HA15.out.below b5 HA15.out.2.2.2.2)
                replace HTZ := Lib.hid (HTZ.out.below b5 HTZ.out.2.2.2.2)
                replace HBR := Lib.hid (HBR.out.trans (b5.mono (Nat.le_of_lt l14)))
                have u0 := (b5.cell (p := ⟨b, o + i * 6, none⟩) hbw).trans u0
                have u1 := (b5.cell (p := ⟨b, o + i * 6 + 1, none⟩) hbw).trans u1
                have hbw : b < w5.heap.size := Nat.lt_of_lt_of_le hbw b5.size
                clear f0 f1 b5
                go_wp2_with fail
                go_upto_region 26 with fail
                have f0 : ∀ p : Later w5.heap.size w5, p.W.cell? ⟨b, o + i * 6, none⟩ = some (.int .i64 (eu)) := Later.cell u0 hbw
                have f1 : ∀ p : Later w5.heap.size w5, p.W.cell? ⟨b, o + i * 6 + 1, none⟩ = some (.int .i64 (eu)) := Later.cell u1 hbw
                refine Later.wp_region_later (w5.heap.size) (by kernel_rfl) (by kernel_rfl) ?_
                repeat (first | go_big_quiet_step ((fail)) | quiet_step ((fail)))
                refine wpQuiet_nil ?_
                rintro w6 ⟨q6, hq6⟩
                have b6 := q6.h
                rw [← hq6] at b6
                clear hq6 q6
                have l15 := HA14.out.2.2.2.2
                replace HA14 := Lib.hid (HA14.out.below b6 HA14.out.2.2.2.2)
                replace HA15 := Lib.hid (HA15.out.below b6 HA15.out.2.2.2.2)
                replace HTZ := Lib.hid (HTZ.out.below b6 HTZ.out.2.2.2.2)
                replace HBR := Lib.hid (HBR.out.trans (b6.mono (Nat.le_of_lt l15)))
                clear f0 f1 b6 u0 u1
                obtain ⟨s0, s1, _, _, _⟩ := HA15.out
                obtain ⟨t0, t1, _, _, _⟩ := HTZ.out
                go_wp2_with fail
                (with_reducible refine (HAD.out _).mono ?_)
                rintro e w7 ⟨rfl, b7⟩
                have l16 := HA14.out.2.2.2.2
                have TA := HA15.out.below b7 HA15.out.2.2.2.2
                have T2 : Two w7 bHT14 (mvf 2 (i + 1)).n (mvf 2 (i + 1)).d := by rw [HR2.out, HE2.out]; exact HA14.out.below b7 HA14.out.2.2.2.2
                have B7 := HBR.out.trans (b7.mono (Nat.le_of_lt l16))
                have HTA := Lib.hid TA
                have HT2 := Lib.hid T2
                obtain ⟨k0, k1, k2, k3, k4⟩ := TA
                clear b7 s0 s1 t0 t1 T2 HTZ
                go_wp2
                go_roundw
                case rel => exact ⟨i + 1, by omega, rfl, by go_num, (HT2.out.set (Nat.ne_of_gt qHT15_HT14) _).set (Nat.ne_of_gt qHT15_HT14) _, by rw [HR0.out]; exact HTA.out.put _ _, (B7.setCell (Nat.le_of_lt qHT15_HT14) _).setCell (Nat.le_of_lt qHT15_HT14) _⟩
                case measure => simp [intOf]; omega
            · have hdd : eu - el = 2 := hd
              have he1 : (eu == el) = false := by rw [beq_eq_false_iff_ne]; omega
              have he2 : decide (eu = el) = false := decide_eq_false (by omega)
              have hx2 : ¬ eu = el := by omega
              have hwx : IntKind.i64.wrap 2 = 2 := IntWalk.i64_in _ (by omega)
              as_aux_lemma =>
                have e0 := HN0.out (by omega)
                have HE0 := Lib.hid e0
                obtain ⟨n2n, n2d, n2k⟩ := r2
                have hk2 : n2k = true := HK2.out
                subst hk2
                have HAD := Lib.hid (fun W => laddTo an2 ad2 zn zd ⟨n2n, n2d, true⟩ (HY2.out hdd) rfl W)
                clear hd e0
                go_wp2_with fail
                go_upto_region 24 with fail
                have f0 : ∀ p : Later wn.heap.size wn, p.W.cell? ⟨b, o + i * 6, none⟩ = some (.int .i64 (eu)) := Later.cell u0 hbw
                have f1 : ∀ p : Later wn.heap.size wn, p.W.cell? ⟨b, o + i * 6 + 1, none⟩ = some (.int .i64 (el)) := Later.cell u1 hbw
                refine Later.wp_region_later (wn.heap.size) (by kernel_rfl) (by kernel_rfl) ?_
                repeat (first | go_big_quiet_step ((fail)) | quiet_step ((fail)))
                refine wpQuiet_nil ?_
                rintro w5 ⟨q5, hq5⟩
                have b5 := q5.h
                rw [← hq5] at b5
                clear hq5 q5
                replace HA14 := Lib.hid (HA14.out.below b5 HA14.out.2.2.2.2)
                replace HA15 := Lib.hid (HA15.out.below b5 HA15.out.2.2.2.2)
                replace HTZ := Lib.hid (HTZ.out.below b5 HTZ.out.2.2.2.2)
                replace HBR := Lib.hid (HBR.out.trans (b5.mono (Nat.le_of_lt l14)))
                have u0 := (b5.cell (p := ⟨b, o + i * 6, none⟩) hbw).trans u0
                have u1 := (b5.cell (p := ⟨b, o + i * 6 + 1, none⟩) hbw).trans u1
                have hbw : b < w5.heap.size := Nat.lt_of_lt_of_le hbw b5.size
                clear f0 f1 b5
                obtain ⟨s0, s1, _, _, _⟩ := HA14.out
                obtain ⟨t0, t1, _, _, _⟩ := HTZ.out
                go_wp2_with fail
                (with_reducible refine (HAD.out _).mono ?_)
                rintro e w7 ⟨rfl, b7⟩
                have l16 := HA14.out.2.2.2.2
                have TA := HA14.out.below b7 HA14.out.2.2.2.2
                have T0 : Two w7 bHT15 (mvf 0 (i + 1)).n (mvf 0 (i + 1)).d := by rw [HR0.out, HE0.out]; exact HA15.out.below b7 HA15.out.2.2.2.2
                have B7 := HBR.out.trans (b7.mono (Nat.le_of_lt l16))
                have u0 := (b7.cell (p := ⟨b, o + i * 6, none⟩) hbw).trans u0
                have u1 := (b7.cell (p := ⟨b, o + i * 6 + 1, none⟩) hbw).trans u1
                have hbw : b < w7.heap.size := Nat.lt_of_lt_of_le hbw b7.size
                have HTA := Lib.hid TA
                have HT0 := Lib.hid T0
                have HB7 := Lib.hid B7
                obtain ⟨k0, k1, k2, k3, k4⟩ := TA
                clear b7 s0 s1 t0 t1 T0 HTZ B7
                go_upto_region 26 with fail
                obtain ⟨w8, hw8⟩ : ∃ x : World, x = (w7.setCell ⟨bHT14, 0, none⟩ (.int .i64 n2n)).setCell ⟨bHT14, 1, none⟩ (.int .i64 n2d) := ⟨_, rfl⟩
                have T2 : Two w8 bHT14 (mvf 2 (i + 1)).n (mvf 2 (i + 1)).d := by rw [hw8, HR2.out]; exact HTA.out.put _ _
                have T0 : Two w8 bHT15 (mvf 0 (i + 1)).n (mvf 0 (i + 1)).d := by rw [hw8]; exact (HT0.out.set (Nat.ne_of_lt qHT15_HT14) _).set (Nat.ne_of_lt qHT15_HT14) _
                have B8 : Below bHT14 wb62 w8 := by rw [hw8]; exact (HB7.out.setCell (Nat.le_refl _) _).setCell (Nat.le_refl _) _
                have u0 : w8.cell? ⟨b, o + i * 6, none⟩ = some (.int .i64 eu) := by rw [hw8]; exact cs (cs u0 (Nat.ne_of_gt hbT) _) (Nat.ne_of_gt hbT) _
                have u1 : w8.cell? ⟨b, o + i * 6 + 1, none⟩ = some (.int .i64 el) := by rw [hw8]; exact cs (cs u1 (Nat.ne_of_gt hbT) _) (Nat.ne_of_gt hbT) _
                have hbw8 : b < w8.heap.size := by have := T2.2.2.2.2; omega
                rw [← hw8]
                have HX2 := Lib.hid T2
                have HX0 := Lib.hid T0
                have HB8 := Lib.hid B8
                clear hw8 k0 k1 k2 k3 k4 T2 T0 B8 HTA HT0 HB7
                go_wp2_with fail
                have f0 : ∀ p : Later w8.heap.size w8, p.W.cell? ⟨b, o + i * 6, none⟩ = some (.int .i64 (eu)) := Later.cell u0 hbw8
                have f1 : ∀ p : Later w8.heap.size w8, p.W.cell? ⟨b, o + i * 6 + 1, none⟩ = some (.int .i64 (el)) := Later.cell u1 hbw8
                refine Later.wp_region_later (w8.heap.size) (by kernel_rfl) (by kernel_rfl) ?_
                repeat (first | go_big_quiet_step ((fail)) | quiet_step ((fail)))
                refine wpQuiet_nil ?_
                rintro w9 ⟨q9, hq9⟩
                have b9 := q9.h
                rw [← hq9] at b9
                clear hq9 q9
                have l17 := HX2.out.2.2.2.2
                have T2 := HX2.out.below b9 HX2.out.2.2.2.2
                have T0 := HX0.out.below b9 HX0.out.2.2.2.2
                have B9 := HB8.out.trans (b9.mono (Nat.le_of_lt l17))
                clear f0 f1 b9 u0 u1
                go_wp2
                go_roundw
                case rel => exact ⟨i + 1, by omega, rfl, by go_num, T2, T0, B9⟩
                case measure => simp [intOf]; omega
        · obtain rfl : i = m := by omega
          as_aux_lemma =>
            have TF := HA14.out
            have TZ := HA15.out
            rw [HM2E.out] at TF
            rw [HM0E.out] at TZ
            replace HT14 := Lib.hid TF
            replace HT15 := Lib.hid TZ
            replace HT9 := Lib.hid (HT9.out.below hB qHT14_HT9)
            replace HTM := Lib.hid (HTM.out.below hB qHT14_HTM)
            replace HBB := Lib.hid (HBB.out.trans (hB.mono gHT14))
            clear TF TZ hB HBR HA14 HA15
            simp only at HT14 HT15
            obtain ⟨HT9_0, HT9_1, HT9_2, HT9_3, HT9_4⟩ := HT9.out
            obtain ⟨HTM_0, HTM_1, HTM_2, HTM_3, HTM_4⟩ := HTM.out
            go_wp2_with fail
            (with_reducible refine (HAC.out _).mono ?_)
            rintro e wa81 ⟨rfl, ba⟩
            replace HT9 := Lib.hid (HT9.out.below ba HT9.out.2.2.2.2)
            replace HTM := Lib.hid (HTM.out.below ba HTM.out.2.2.2.2)
            replace HT14 := Lib.hid (HT14.out.below ba HT14.out.2.2.2.2)
            replace HT15 := Lib.hid (HT15.out.below ba HT15.out.2.2.2.2)
            replace HBB := Lib.hid (HBB.out.trans (ba.mono HBB.out.size))
            clear ba HT9_0 HT9_1 HT9_2 HT9_3 HT9_4 HTM_0 HTM_1 HTM_2 HTM_3 HTM_4
            go_upto_region 29 with fail
            have gHT19 := HBB.out.size
            obtain ⟨wb81, hwn⟩ : ∃ W : World, W = wa81.alloc (.cells #[.int .i64 (an), .int .i64 (ad)] 34) := ⟨_, rfl⟩
            have HT19 : Hid (Two wb81 wa81.heap.size (an) (ad)) := Lib.hid (by rw [hwn]; exact Two.new _ _ _ _)
            replace HT9 : Hid (Two wb81 bHT9 (gn) (gd')) := Lib.hid (by rw [hwn]; exact HT9.out.alloc _)
            replace HTM : Hid (Two wb81 bHTM (hn') (hd')) := Lib.hid (by rw [hwn]; exact HTM.out.alloc _)
            replace HT14 : Hid (Two wb81 bHT14 (fn') (fd')) := Lib.hid (by rw [hwn]; exact HT14.out.alloc _)
            replace HT15 : Hid (Two wb81 bHT15 (0) (1)) := Lib.hid (by rw [hwn]; exact HT15.out.alloc _)
            replace HBB : Hid (Below w3.heap.size w3 wb81) := Lib.hid (by rw [hwn]; exact HBB.out.alloc HBB.out.size _)
            rw [← hwn]
            obtain ⟨bHT19, hbn⟩ : ∃ x, x = wa81.heap.size := ⟨_, rfl⟩
            rw [← hbn] at HT19 gHT19 ⊢
            clear hwn hbn
            obtain ⟨HT19_0, HT19_1, HT19_2, HT19_3, HT19_4⟩ := HT19.out
            go_wp2_with fail
            (with_reducible refine (HQC.out _).mono ?_)
            rintro e wa82 ⟨rfl, ba⟩
            replace HT9 := Lib.hid (HT9.out.below ba HT9.out.2.2.2.2)
            replace HTM := Lib.hid (HTM.out.below ba HTM.out.2.2.2.2)
            replace HT14 := Lib.hid (HT14.out.below ba HT14.out.2.2.2.2)
            replace HT15 := Lib.hid (HT15.out.below ba HT15.out.2.2.2.2)
            replace HT19 := Lib.hid (HT19.out.below ba HT19.out.2.2.2.2)
            replace HBB := Lib.hid (HBB.out.trans (ba.mono HBB.out.size))
            clear ba HT19_0 HT19_1 HT19_2 HT19_3 HT19_4
            go_upto_region 30 with fail
            have gHT21 := HBB.out.size
            obtain ⟨wb82, hwn⟩ : ∃ W : World, W = wa82.alloc (.cells #[.int .i64 (bn), .int .i64 (bd)] 34) := ⟨_, rfl⟩
            have HT21 : Hid (Two wb82 wa82.heap.size (bn) (bd)) := Lib.hid (by rw [hwn]; exact Two.new _ _ _ _)
            replace HT9 : Hid (Two wb82 bHT9 (gn) (gd')) := Lib.hid (by rw [hwn]; exact HT9.out.alloc _)
            replace HTM : Hid (Two wb82 bHTM (hn') (hd')) := Lib.hid (by rw [hwn]; exact HTM.out.alloc _)
            replace HT14 : Hid (Two wb82 bHT14 (fn') (fd')) := Lib.hid (by rw [hwn]; exact HT14.out.alloc _)
            replace HT15 : Hid (Two wb82 bHT15 (0) (1)) := Lib.hid (by rw [hwn]; exact HT15.out.alloc _)
            replace HT19 : Hid (Two wb82 bHT19 (an) (ad)) := Lib.hid (by rw [hwn]; exact HT19.out.alloc _)
            replace HBB : Hid (Below w3.heap.size w3 wb82) := Lib.hid (by rw [hwn]; exact HBB.out.alloc HBB.out.size _)
            rw [← hwn]
            obtain ⟨bHT21, hbn⟩ : ∃ x, x = wa82.heap.size := ⟨_, rfl⟩
            rw [← hbn] at HT21 gHT21 ⊢
            clear hwn hbn
            obtain ⟨HT9_0, HT9_1, HT9_2, HT9_3, HT9_4⟩ := HT9.out
            obtain ⟨HTM_0, HTM_1, HTM_2, HTM_3, HTM_4⟩ := HTM.out
            go_wp2_with fail
            (with_reducible refine (HCC.out _).mono ?_)
            rintro e wa83 ⟨rfl, ba⟩
            replace HT9 := Lib.hid (HT9.out.below ba HT9.out.2.2.2.2)
            replace HTM := Lib.hid (HTM.out.below ba HTM.out.2.2.2.2)
            replace HT14 := Lib.hid (HT14.out.below ba HT14.out.2.2.2.2)
            replace HT15 := Lib.hid (HT15.out.below ba HT15.out.2.2.2.2)
            replace HT19 := Lib.hid (HT19.out.below ba HT19.out.2.2.2.2)
            replace HT21 := Lib.hid (HT21.out.below ba HT21.out.2.2.2.2)
            replace HBB := Lib.hid (HBB.out.trans (ba.mono HBB.out.size))
            clear ba HT9_0 HT9_1 HT9_2 HT9_3 HT9_4 HTM_0 HTM_1 HTM_2 HTM_3 HTM_4
            go_upto_region 31 with fail
            have gHT23 := HBB.out.size
            obtain ⟨wb83, hwn⟩ : ∃ W : World, W = wa83.alloc (.cells #[.int .i64 (cn), .int .i64 (cd')] 34) := ⟨_, rfl⟩
            have HT23 : Hid (Two wb83 wa83.heap.size (cn) (cd')) := Lib.hid (by rw [hwn]; exact Two.new _ _ _ _)
            replace HT9 : Hid (Two wb83 bHT9 (gn) (gd')) := Lib.hid (by rw [hwn]; exact HT9.out.alloc _)
            replace HTM : Hid (Two wb83 bHTM (hn') (hd')) := Lib.hid (by rw [hwn]; exact HTM.out.alloc _)
            replace HT14 : Hid (Two wb83 bHT14 (fn') (fd')) := Lib.hid (by rw [hwn]; exact HT14.out.alloc _)
            replace HT15 : Hid (Two wb83 bHT15 (0) (1)) := Lib.hid (by rw [hwn]; exact HT15.out.alloc _)
            replace HT19 : Hid (Two wb83 bHT19 (an) (ad)) := Lib.hid (by rw [hwn]; exact HT19.out.alloc _)
            replace HT21 : Hid (Two wb83 bHT21 (bn) (bd)) := Lib.hid (by rw [hwn]; exact HT21.out.alloc _)
            replace HBB : Hid (Below w3.heap.size w3 wb83) := Lib.hid (by rw [hwn]; exact HBB.out.alloc HBB.out.size _)
            rw [← hwn]
            obtain ⟨bHT23, hbn⟩ : ∃ x, x = wa83.heap.size := ⟨_, rfl⟩
            rw [← hbn] at HT23 gHT23 ⊢
            clear hwn hbn
            have hq1 : j * (j + 2) = p1 := HQ1.out.symm
            have hq2 : j' * (j' + 2) = p2 := HQ2.out.symm
            have v1 : IntKind.i64.wrap (j + 2) = j + 2 := IntWalk.i64_in _ (by omega)
            have v2' : IntKind.i64.wrap (j' + 2) = j' + 2 := IntWalk.i64_in _ (by omega)
            have v3 : IntKind.i64.wrap p1 = p1 := IntWalk.i64_in _ (by omega)
            have v4 : IntKind.i64.wrap p2 = p2 := IntWalk.i64_in _ (by omega)
            have v5 : IntKind.i64.wrap (p1 - p2) = p1 - p2 := IntWalk.i64_in _ (by omega)
            have v6 : IntKind.i64.wrap (j + 1) = j + 1 := IntWalk.i64_in _ (by omega)
            obtain ⟨x0, x1, x2, y0, y1, y2, lx, ly⟩ := HL3.out.below HBB.out HL3.out.2.2.2.2.2.2.1 HL3.out.2.2.2.2.2.2.2
            go_wp2_with fail
            (with_reducible refine (HK.out _).mono ?_)
            rintro e wa84 ⟨rfl, ba⟩
            replace HT9 := Lib.hid (HT9.out.below ba HT9.out.2.2.2.2)
            replace HTM := Lib.hid (HTM.out.below ba HTM.out.2.2.2.2)
            replace HT14 := Lib.hid (HT14.out.below ba HT14.out.2.2.2.2)
            replace HT15 := Lib.hid (HT15.out.below ba HT15.out.2.2.2.2)
            replace HT19 := Lib.hid (HT19.out.below ba HT19.out.2.2.2.2)
            replace HT21 := Lib.hid (HT21.out.below ba HT21.out.2.2.2.2)
            replace HT23 := Lib.hid (HT23.out.below ba HT23.out.2.2.2.2)
            replace HBB := Lib.hid (HBB.out.trans (ba.mono HBB.out.size))
            clear ba x0 x1 x2 y0 y1 y2 lx ly
            go_upto_region 32 with fail
            have gHT25 := HBB.out.size
            obtain ⟨wb84, hwn⟩ : ∃ W : World, W = wa84.alloc (.cells #[.int .i64 (kn), .int .i64 (kd)] 34) := ⟨_, rfl⟩
            have HT25 : Hid (Two wb84 wa84.heap.size (kn) (kd)) := Lib.hid (by rw [hwn]; exact Two.new _ _ _ _)
            replace HT9 : Hid (Two wb84 bHT9 (gn) (gd')) := Lib.hid (by rw [hwn]; exact HT9.out.alloc _)
            replace HTM : Hid (Two wb84 bHTM (hn') (hd')) := Lib.hid (by rw [hwn]; exact HTM.out.alloc _)
            replace HT14 : Hid (Two wb84 bHT14 (fn') (fd')) := Lib.hid (by rw [hwn]; exact HT14.out.alloc _)
            replace HT15 : Hid (Two wb84 bHT15 (0) (1)) := Lib.hid (by rw [hwn]; exact HT15.out.alloc _)
            replace HT19 : Hid (Two wb84 bHT19 (an) (ad)) := Lib.hid (by rw [hwn]; exact HT19.out.alloc _)
            replace HT21 : Hid (Two wb84 bHT21 (bn) (bd)) := Lib.hid (by rw [hwn]; exact HT21.out.alloc _)
            replace HT23 : Hid (Two wb84 bHT23 (cn) (cd')) := Lib.hid (by rw [hwn]; exact HT23.out.alloc _)
            replace HBB : Hid (Below w3.heap.size w3 wb84) := Lib.hid (by rw [hwn]; exact HBB.out.alloc HBB.out.size _)
            rw [← hwn]
            obtain ⟨bHT25, hbn⟩ : ∃ x, x = wa84.heap.size := ⟨_, rfl⟩
            rw [← hbn] at HT25 gHT25 ⊢
            clear hwn hbn
            clear hq1 hq2 v1 v2' v3 v4 v5
            obtain ⟨HT23_0, HT23_1, HT23_2, HT23_3, HT23_4⟩ := HT23.out
            obtain ⟨HT25_0, HT25_1, HT25_2, HT25_3, HT25_4⟩ := HT25.out
            go_wp2_with fail
            (with_reducible refine (HDC.out _).mono ?_)
            rintro e wa85 ⟨rfl, ba⟩
            replace HT9 := Lib.hid (HT9.out.below ba HT9.out.2.2.2.2)
            replace HTM := Lib.hid (HTM.out.below ba HTM.out.2.2.2.2)
            replace HT14 := Lib.hid (HT14.out.below ba HT14.out.2.2.2.2)
            replace HT15 := Lib.hid (HT15.out.below ba HT15.out.2.2.2.2)
            replace HT19 := Lib.hid (HT19.out.below ba HT19.out.2.2.2.2)
            replace HT21 := Lib.hid (HT21.out.below ba HT21.out.2.2.2.2)
            replace HT23 := Lib.hid (HT23.out.below ba HT23.out.2.2.2.2)
            replace HT25 := Lib.hid (HT25.out.below ba HT25.out.2.2.2.2)
            replace HBB := Lib.hid (HBB.out.trans (ba.mono HBB.out.size))
            clear ba HT23_0 HT23_1 HT23_2 HT23_3 HT23_4 HT25_0 HT25_1 HT25_2 HT25_3 HT25_4
            go_upto_region 33 with fail
            have gHT27 := HBB.out.size
            obtain ⟨wb85, hwn⟩ : ∃ W : World, W = wa85.alloc (.cells #[.int .i64 (dn), .int .i64 (dd)] 34) := ⟨_, rfl⟩
            have HT27 : Hid (Two wb85 wa85.heap.size (dn) (dd)) := Lib.hid (by rw [hwn]; exact Two.new _ _ _ _)
            replace HT9 : Hid (Two wb85 bHT9 (gn) (gd')) := Lib.hid (by rw [hwn]; exact HT9.out.alloc _)
            replace HTM : Hid (Two wb85 bHTM (hn') (hd')) := Lib.hid (by rw [hwn]; exact HTM.out.alloc _)
            replace HT14 : Hid (Two wb85 bHT14 (fn') (fd')) := Lib.hid (by rw [hwn]; exact HT14.out.alloc _)
            replace HT15 : Hid (Two wb85 bHT15 (0) (1)) := Lib.hid (by rw [hwn]; exact HT15.out.alloc _)
            replace HT19 : Hid (Two wb85 bHT19 (an) (ad)) := Lib.hid (by rw [hwn]; exact HT19.out.alloc _)
            replace HT21 : Hid (Two wb85 bHT21 (bn) (bd)) := Lib.hid (by rw [hwn]; exact HT21.out.alloc _)
            replace HT23 : Hid (Two wb85 bHT23 (cn) (cd')) := Lib.hid (by rw [hwn]; exact HT23.out.alloc _)
            replace HT25 : Hid (Two wb85 bHT25 (kn) (kd)) := Lib.hid (by rw [hwn]; exact HT25.out.alloc _)
            replace HBB : Hid (Below w3.heap.size w3 wb85) := Lib.hid (by rw [hwn]; exact HBB.out.alloc HBB.out.size _)
            rw [← hwn]
            obtain ⟨bHT27, hbn⟩ : ∃ x, x = wa85.heap.size := ⟨_, rfl⟩
            rw [← hbn] at HT27 gHT27 ⊢
            clear hwn hbn
            obtain ⟨HT21_0, HT21_1, HT21_2, HT21_3, HT21_4⟩ := HT21.out
            obtain ⟨HT27_0, HT27_1, HT27_2, HT27_3, HT27_4⟩ := HT27.out
            go_wp2_with fail
            (with_reducible refine (HEC.out _).mono ?_)
            rintro e wa86 ⟨rfl, ba⟩
            replace HT9 := Lib.hid (HT9.out.below ba HT9.out.2.2.2.2)
            replace HTM := Lib.hid (HTM.out.below ba HTM.out.2.2.2.2)
            replace HT14 := Lib.hid (HT14.out.below ba HT14.out.2.2.2.2)
            replace HT15 := Lib.hid (HT15.out.below ba HT15.out.2.2.2.2)
            replace HT19 := Lib.hid (HT19.out.below ba HT19.out.2.2.2.2)
            replace HT21 := Lib.hid (HT21.out.below ba HT21.out.2.2.2.2)
            replace HT23 := Lib.hid (HT23.out.below ba HT23.out.2.2.2.2)
            replace HT25 := Lib.hid (HT25.out.below ba HT25.out.2.2.2.2)
            replace HT27 := Lib.hid (HT27.out.below ba HT27.out.2.2.2.2)
            replace HBB := Lib.hid (HBB.out.trans (ba.mono HBB.out.size))
            clear ba HT21_0 HT21_1 HT21_2 HT21_3 HT21_4 HT27_0 HT27_1 HT27_2 HT27_3 HT27_4
            go_upto_region 34 with fail
            have gHT29 := HBB.out.size
            obtain ⟨wb86, hwn⟩ : ∃ W : World, W = wa86.alloc (.cells #[.int .i64 (en), .int .i64 (ed)] 34) := ⟨_, rfl⟩
            have HT29 : Hid (Two wb86 wa86.heap.size (en) (ed)) := Lib.hid (by rw [hwn]; exact Two.new _ _ _ _)
            replace HT9 : Hid (Two wb86 bHT9 (gn) (gd')) := Lib.hid (by rw [hwn]; exact HT9.out.alloc _)
            replace HTM : Hid (Two wb86 bHTM (hn') (hd')) := Lib.hid (by rw [hwn]; exact HTM.out.alloc _)
            replace HT14 : Hid (Two wb86 bHT14 (fn') (fd')) := Lib.hid (by rw [hwn]; exact HT14.out.alloc _)
            replace HT15 : Hid (Two wb86 bHT15 (0) (1)) := Lib.hid (by rw [hwn]; exact HT15.out.alloc _)
            replace HT19 : Hid (Two wb86 bHT19 (an) (ad)) := Lib.hid (by rw [hwn]; exact HT19.out.alloc _)
            replace HT21 : Hid (Two wb86 bHT21 (bn) (bd)) := Lib.hid (by rw [hwn]; exact HT21.out.alloc _)
            replace HT23 : Hid (Two wb86 bHT23 (cn) (cd')) := Lib.hid (by rw [hwn]; exact HT23.out.alloc _)
            replace HT25 : Hid (Two wb86 bHT25 (kn) (kd)) := Lib.hid (by rw [hwn]; exact HT25.out.alloc _)
            replace HT27 : Hid (Two wb86 bHT27 (dn) (dd)) := Lib.hid (by rw [hwn]; exact HT27.out.alloc _)
            replace HBB : Hid (Below w3.heap.size w3 wb86) := Lib.hid (by rw [hwn]; exact HBB.out.alloc HBB.out.size _)
            rw [← hwn]
            obtain ⟨bHT29, hbn⟩ : ∃ x, x = wa86.heap.size := ⟨_, rfl⟩
            rw [← hbn] at HT29 gHT29 ⊢
            clear hwn hbn
            obtain ⟨x0, x1, x2, y0, y1, y2, lx, ly⟩ := HL3.out.below HBB.out HL3.out.2.2.2.2.2.2.1 HL3.out.2.2.2.2.2.2.2
            go_wp2_with fail
            (with_reducible refine (HW.out _).mono ?_)
            rintro e wa87 ⟨rfl, ba⟩
            replace HT9 := Lib.hid (HT9.out.below ba HT9.out.2.2.2.2)
            replace HTM := Lib.hid (HTM.out.below ba HTM.out.2.2.2.2)
            replace HT14 := Lib.hid (HT14.out.below ba HT14.out.2.2.2.2)
            replace HT15 := Lib.hid (HT15.out.below ba HT15.out.2.2.2.2)
            replace HT19 := Lib.hid (HT19.out.below ba HT19.out.2.2.2.2)
            replace HT21 := Lib.hid (HT21.out.below ba HT21.out.2.2.2.2)
            replace HT23 := Lib.hid (HT23.out.below ba HT23.out.2.2.2.2)
            replace HT25 := Lib.hid (HT25.out.below ba HT25.out.2.2.2.2)
            replace HT27 := Lib.hid (HT27.out.below ba HT27.out.2.2.2.2)
            replace HT29 := Lib.hid (HT29.out.below ba HT29.out.2.2.2.2)
            replace HBB := Lib.hid (HBB.out.trans (ba.mono HBB.out.size))
            clear ba x0 x1 x2 y0 y1 y2 lx ly
            go_upto_region 35 with fail
            have gHT31 := HBB.out.size
            obtain ⟨wb87, hwn⟩ : ∃ W : World, W = wa87.alloc (.cells #[.int .i64 (wn'), .int .i64 (wd')] 34) := ⟨_, rfl⟩
            have HT31 : Hid (Two wb87 wa87.heap.size (wn') (wd')) := Lib.hid (by rw [hwn]; exact Two.new _ _ _ _)
            replace HT9 : Hid (Two wb87 bHT9 (gn) (gd')) := Lib.hid (by rw [hwn]; exact HT9.out.alloc _)
            replace HTM : Hid (Two wb87 bHTM (hn') (hd')) := Lib.hid (by rw [hwn]; exact HTM.out.alloc _)
            replace HT14 : Hid (Two wb87 bHT14 (fn') (fd')) := Lib.hid (by rw [hwn]; exact HT14.out.alloc _)
            replace HT15 : Hid (Two wb87 bHT15 (0) (1)) := Lib.hid (by rw [hwn]; exact HT15.out.alloc _)
            replace HT19 : Hid (Two wb87 bHT19 (an) (ad)) := Lib.hid (by rw [hwn]; exact HT19.out.alloc _)
            replace HT21 : Hid (Two wb87 bHT21 (bn) (bd)) := Lib.hid (by rw [hwn]; exact HT21.out.alloc _)
            replace HT23 : Hid (Two wb87 bHT23 (cn) (cd')) := Lib.hid (by rw [hwn]; exact HT23.out.alloc _)
            replace HT25 : Hid (Two wb87 bHT25 (kn) (kd)) := Lib.hid (by rw [hwn]; exact HT25.out.alloc _)
            replace HT27 : Hid (Two wb87 bHT27 (dn) (dd)) := Lib.hid (by rw [hwn]; exact HT27.out.alloc _)
            replace HT29 : Hid (Two wb87 bHT29 (en) (ed)) := Lib.hid (by rw [hwn]; exact HT29.out.alloc _)
            replace HBB : Hid (Below w3.heap.size w3 wb87) := Lib.hid (by rw [hwn]; exact HBB.out.alloc HBB.out.size _)
            rw [← hwn]
            obtain ⟨bHT31, hbn⟩ : ∃ x, x = wa87.heap.size := ⟨_, rfl⟩
            rw [← hbn] at HT31 gHT31 ⊢
            clear hwn hbn
            obtain ⟨HT29_0, HT29_1, HT29_2, HT29_3, HT29_4⟩ := HT29.out
            obtain ⟨HT31_0, HT31_1, HT31_2, HT31_3, HT31_4⟩ := HT31.out
            go_wp2_with fail
            (with_reducible refine (HFC.out _).mono ?_)
            rintro e wa88 ⟨rfl, ba⟩
            replace HT9 := Lib.hid (HT9.out.below ba HT9.out.2.2.2.2)
            replace HTM := Lib.hid (HTM.out.below ba HTM.out.2.2.2.2)
            replace HT14 := Lib.hid (HT14.out.below ba HT14.out.2.2.2.2)
            replace HT15 := Lib.hid (HT15.out.below ba HT15.out.2.2.2.2)
            replace HT19 := Lib.hid (HT19.out.below ba HT19.out.2.2.2.2)
            replace HT21 := Lib.hid (HT21.out.below ba HT21.out.2.2.2.2)
            replace HT23 := Lib.hid (HT23.out.below ba HT23.out.2.2.2.2)
            replace HT25 := Lib.hid (HT25.out.below ba HT25.out.2.2.2.2)
            replace HT27 := Lib.hid (HT27.out.below ba HT27.out.2.2.2.2)
            replace HT29 := Lib.hid (HT29.out.below ba HT29.out.2.2.2.2)
            replace HT31 := Lib.hid (HT31.out.below ba HT31.out.2.2.2.2)
            replace HBB := Lib.hid (HBB.out.trans (ba.mono HBB.out.size))
            clear ba HT29_0 HT29_1 HT29_2 HT29_3 HT29_4 HT31_0 HT31_1 HT31_2 HT31_3 HT31_4
            go_upto_region 36 with fail
            have gHT33 := HBB.out.size
            obtain ⟨wb88, hwn⟩ : ∃ W : World, W = wa88.alloc (.cells #[.int .i64 (fn'), .int .i64 (fd')] 34) := ⟨_, rfl⟩
            have HT33 : Hid (Two wb88 wa88.heap.size (fn') (fd')) := Lib.hid (by rw [hwn]; exact Two.new _ _ _ _)
            replace HT9 : Hid (Two wb88 bHT9 (gn) (gd')) := Lib.hid (by rw [hwn]; exact HT9.out.alloc _)
            replace HTM : Hid (Two wb88 bHTM (hn') (hd')) := Lib.hid (by rw [hwn]; exact HTM.out.alloc _)
            replace HT14 : Hid (Two wb88 bHT14 (fn') (fd')) := Lib.hid (by rw [hwn]; exact HT14.out.alloc _)
            replace HT15 : Hid (Two wb88 bHT15 (0) (1)) := Lib.hid (by rw [hwn]; exact HT15.out.alloc _)
            replace HT19 : Hid (Two wb88 bHT19 (an) (ad)) := Lib.hid (by rw [hwn]; exact HT19.out.alloc _)
            replace HT21 : Hid (Two wb88 bHT21 (bn) (bd)) := Lib.hid (by rw [hwn]; exact HT21.out.alloc _)
            replace HT23 : Hid (Two wb88 bHT23 (cn) (cd')) := Lib.hid (by rw [hwn]; exact HT23.out.alloc _)
            replace HT25 : Hid (Two wb88 bHT25 (kn) (kd)) := Lib.hid (by rw [hwn]; exact HT25.out.alloc _)
            replace HT27 : Hid (Two wb88 bHT27 (dn) (dd)) := Lib.hid (by rw [hwn]; exact HT27.out.alloc _)
            replace HT29 : Hid (Two wb88 bHT29 (en) (ed)) := Lib.hid (by rw [hwn]; exact HT29.out.alloc _)
            replace HT31 : Hid (Two wb88 bHT31 (wn') (wd')) := Lib.hid (by rw [hwn]; exact HT31.out.alloc _)
            replace HBB : Hid (Below w3.heap.size w3 wb88) := Lib.hid (by rw [hwn]; exact HBB.out.alloc HBB.out.size _)
            rw [← hwn]
            obtain ⟨bHT33, hbn⟩ : ∃ x, x = wa88.heap.size := ⟨_, rfl⟩
            rw [← hbn] at HT33 gHT33 ⊢
            clear hwn hbn
            obtain ⟨t00, t01, _, _, t04⟩ := HT14.out
            have f00 : ∀ p : Later wb88.heap.size wb88, p.W.cell? ⟨bHT14, 0, none⟩ = some (.int .i64 (fn')) := Later.cell t00 t04
            have f01 : ∀ p : Later wb88.heap.size wb88, p.W.cell? ⟨bHT14, 1, none⟩ = some (.int .i64 (fd')) := Later.cell t01 t04
            obtain ⟨t10, t11, _, _, t14⟩ := HT33.out
            have f10 : ∀ p : Later wb88.heap.size wb88, p.W.cell? ⟨bHT33, 0, none⟩ = some (.int .i64 (fn')) := Later.cell t10 t14
            have f11 : ∀ p : Later wb88.heap.size wb88, p.W.cell? ⟨bHT33, 1, none⟩ = some (.int .i64 (fd')) := Later.cell t11 t14
            obtain ⟨t20, t21, _, _, t24⟩ := HT15.out
            have f20 : ∀ p : Later wb88.heap.size wb88, p.W.cell? ⟨bHT15, 0, none⟩ = some (.int .i64 (0)) := Later.cell t20 t24
            have f21 : ∀ p : Later wb88.heap.size wb88, p.W.cell? ⟨bHT15, 1, none⟩ = some (.int .i64 (1)) := Later.cell t21 t24
            refine Later.wp_region_later (wb88.heap.size) (by kernel_rfl) (by kernel_rfl) ?_
            repeat (first | go_big_quiet_step ((go_at_call 12; with_reducible exact later_gives (Nat.le_refl _) (HW0.out _))) | quiet_step ((go_at_call 12; with_reducible exact later_gives (Nat.le_refl _) (HW0.out _))))
            refine wpQuiet_nil ?_
            rintro w9 ⟨q9, hq9⟩
            have b9 := q9.h
            rw [← hq9] at b9
            clear hq9 q9
            clear f00 f01 f10 f11 f20 f21
            have B9 := HB3.out.trans ((HBB.out.trans (b9.mono HBB.out.size)).mono HB3.out.size)
            go_wp2
            go_ret
            exact ⟨rfl, B9⟩
end Go.Proofs.YtpollgibgphipaaDoor.WFnSplitMean
