/-
  The walk of the law FnSplitSpanNormal.
-/
import Derived.Test.YtpollgibgphipaaDoorSplitLaws
import Derived.Test.YtpollgibgphipaaDoorRowsSplit
import Derived.Test.YtpollgibgphipaaDoorDrawSpl
import Derived.Test.YtpollgibgphipaaDoorSplI
import Derived.Test.YtpollgibgphipaaDoorSplS
import Derived.Test.YtpollgibgphipaaDoorSplD
import Derived.BigQuiet
import Derived.Test.YtpollgibgphipaaDoorSplE
import Derived.Test.YtpollgibgphipaaDoorSplitSpan
import Derived.Deep.DeepCutAuto
namespace Go.Proofs.YtpollgibgphipaaDoor.WFnSplitSpanNormal
open Go.RowKit Go.Proofs.YtpollgibgphipaaDoor.RatP Go.Proofs.YtpollgibgphipaaDoor.ChoP Go.Proofs.YtpollgibgphipaaDoor.Rat Go.Proofs.YtpollgibgphipaaDoor.Spin Go.Proofs.YtpollgibgphipaaDoor.Row Go.Proofs.YtpollgibgphipaaDoor.Later Go.Proofs.YtpollgibgphipaaDoor.SplitPlain Go.Proofs.YtpollgibgphipaaDoor.SplitDef Go.Proofs.YtpollgibgphipaaDoor.SplitP Go.Proofs.YtpollgibgphipaaDoor.Fac Go.Proofs.YtpollgibgphipaaDoor.FacI Go.Proofs.YtpollgibgphipaaDoor.SplitLaws Go.Proofs.YtpollgibgphipaaDoor.Two Go.Proofs.YtpollgibgphipaaDoor.Rd Go.Proofs.YtpollgibgphipaaDoor.DrawSpl Go.Proofs.YtpollgibgphipaaDoor.SplS Go.Proofs.YtpollgibgphipaaDoor.SplI Go.Proofs.YtpollgibgphipaaDoor.SplD Go.Proofs.YtpollgibgphipaaDoor.SplE Go.Proofs.YtpollgibgphipaaDoor.SplitSpan
set_option linter.unusedVariables false
set_option linter.unusedSimpArgs false

set_option maxRecDepth 100000 in
set_option maxHeartbeats 8000000 in
theorem fnSplitSpanNormal (a : Option Addr) (n c : Nat) (zs : List Int) (w0 : World) (hE : Errs w0) (h : IsRow .u8 w0 a n c zs) :
    Calls Tryd.prog 7 #[.slice a n c] w0 (Yes w0) := by
  have HO := Lib.hid (drawSplitOf a n c zs w0 h)
  have HE := Lib.hid hE
  clear h hE
  by_cases hn : 1048576 < n
  · go_enter Tryd.func7, Tryd.ntmps7
    go_wp2_with fail
    all_goals go_ret
    all_goals exact ⟨rfl, Below.refl _ _⟩
  have hd1 : decide ((1048576 : Int) < (n : Int)) = false := decide_eq_false (by omega)
  go_enter Tryd.func7, Tryd.ntmps7
  go_wp2_with fail
  refine HO.out.mono ?_
  rintro e w ⟨s, l, j, s', l', j', rfl, B0⟩
  clear HO
  cases hs : splitOk s l j s' l' j'
  · have HI := Lib.hid (fun W (_ : Below w.heap.size w W) => iSplitOf_no s l j s' l' j' W hs)
    have HS := Lib.hid (fun W => sSplitOf_no s l j s' l' j' W hs)
    have HSS := Lib.hid (fun W v1 v2 h1 h2 => RowsSplit.sameSplits [] v1 v2 W h1 h2)
    clear hs HE
    have LV0 := lv6_two w s l j s' l' j'
    have BZ0 : Below w.heap.size w ((w.alloc (.cells #[.int .i64 s, .int .i64 l, .int .i64 j] 26)).alloc (.cells #[.int .i64 s', .int .i64 l', .int .i64 j'] 26)) := (by repeat (first | (with_reducible refine Below.drew ?_) | (with_reducible refine below_drewN ?_ _) | (with_reducible refine Below.alloc ?_ ?_ _) | (with_reducible refine Below.setCell ?_ ?_ _) | (with_reducible assumption) | (with_reducible exact Below.refl _ _) | omega | (simp <;> omega)))
    have hz0 : ((w.alloc (.cells #[.int .i64 s, .int .i64 l, .int .i64 j] 26)).alloc (.cells #[.int .i64 s', .int .i64 l', .int .i64 j'] 26)).heap.size = w.heap.size + 2 := by simp
    have HZ0 := Lib.hid hz0
    clear hz0
    go_wp2_with fail
    (with_reducible refine (HI.out _ BZ0).mono ?_)
    rintro e w1 ⟨v1, rfl, O1, b1⟩
    have B1 := BZ0.trans (b1.mono BZ0.size)
    have LV1 := LV0.below b1 (by have := HZ0.out; omega) (by have := HZ0.out; omega)
    have S1 := Sees.of_own O1
    clear b1 LV0 BZ0 HZ0 O1
    have HL1 := Lib.hid LV1
    obtain ⟨x0, x1, x2, y0, y1, y2, lx, ly⟩ := LV1
    go_wp2_with fail
    (with_reducible refine (HS.out _).mono ?_)
    rintro e w2 ⟨v2, rfl, O2, b2⟩
    have B2 := B1.trans (b2.mono B1.size)
    have S1 := S1.below b2 (Nat.le_refl _)
    have S2 := Sees.of_own O2
    have HL2 := Lib.hid (HL1.out.below b2 lx ly)
    clear b2 B1 O2 HL1 x0 x1 x2 y0 y1 y2 lx ly
    go_wp2_with fail
    (with_reducible refine (HSS.out _ _ _ S1 S2).mono ?_)
    rintro e w3 ⟨rfl, b3⟩
    have B3 := B2.trans (b3.mono B2.size)
    have S1 := S1.below b3 (Nat.le_refl _)
    have S2 := S2.below b3 (Nat.le_refl _)
    clear b3 B2
    go_wp2_with fail
    (with_reducible refine (HSS.out _ _ _ S1 S2).mono ?_)
    rintro e w4 ⟨rfl, b4⟩
    have B4 := B3.trans (b4.mono B3.size)
    go_wp2
    go_ret
    exact ⟨rfl, B0.trans (B4.mono B0.size)⟩
  have P := (splitOk_pair hs).pair
  have HEW := Lib.hid (HE.out.below B0 (by have := HE.out; obtain ⟨_, _, _, h⟩ := this; exact h))
  have HI := Lib.hid (fun W (hB : Below w.heap.size w W) => iSplitOf_yes s l j s' l' j' W hs (HEW.out.below hB (by have := HEW.out; obtain ⟨_, _, _, h⟩ := this; exact h)))
  have HS := Lib.hid (fun W => sSplitOf_yes s l j s' l' j' W hs)
  have HSP := Lib.hid hs
  obtain ⟨A, hA⟩ : ∃ A, A = gn s l j := ⟨_, rfl⟩
  obtain ⟨C, hC⟩ : ∃ C, C = gn s' l' j' := ⟨_, rfl⟩
  obtain ⟨xs, hxs⟩ : ∃ xs, xs = splitS s l j s' l' j' := ⟨_, rfl⟩
  have hxl : xs = splitL j j' A C := by rw [hxs, hA, hC]; rfl
  rw [← hxs] at HI HS
  rw [← hA, ← hC] at P
  have HA := Lib.hid hA
  have HC' := Lib.hid hC
  have HXL := Lib.hid hxl
  have HSS := Lib.hid (fun W v1 v2 h1 h2 => RowsSplit.sameSplits xs v1 v2 W h1 h2)
  have hlen := P.len_is
  rw [← hxl] at hlen
  have HP := Lib.hid P
  clear hs HE hA hC hxs hxl
  have LV0 := lv6_two w s l j s' l' j'
  have BZ0 : Below w.heap.size w ((w.alloc (.cells #[.int .i64 s, .int .i64 l, .int .i64 j] 26)).alloc (.cells #[.int .i64 s', .int .i64 l', .int .i64 j'] 26)) := (by repeat (first | (with_reducible refine Below.drew ?_) | (with_reducible refine below_drewN ?_ _) | (with_reducible refine Below.alloc ?_ ?_ _) | (with_reducible refine Below.setCell ?_ ?_ _) | (with_reducible assumption) | (with_reducible exact Below.refl _ _) | omega | (simp <;> omega)))
  have hz0 : ((w.alloc (.cells #[.int .i64 s, .int .i64 l, .int .i64 j] 26)).alloc (.cells #[.int .i64 s', .int .i64 l', .int .i64 j'] 26)).heap.size = w.heap.size + 2 := by simp
  have HZ0 := Lib.hid hz0
  clear hz0
  go_wp2_with fail
  (with_reducible refine (HI.out _ BZ0).mono ?_)
  rintro e w1 ⟨v1, rfl, O1, b1⟩
  have B1 := BZ0.trans (b1.mono BZ0.size)
  have LV1 := LV0.below b1 (by have := HZ0.out; omega) (by have := HZ0.out; omega)
  have S1 := Sees.of_own O1
  clear b1 LV0 BZ0 HZ0 O1
  have HL1 := Lib.hid LV1
  obtain ⟨x0, x1, x2, y0, y1, y2, lx, ly⟩ := LV1
  go_wp2_with fail
  (with_reducible refine (HS.out _).mono ?_)
  rintro e w2 ⟨v2, rfl, O2, b2⟩
  have B2 := B1.trans (b2.mono B1.size)
  have S1 := S1.below b2 (Nat.le_refl _)
  have S2 := Sees.of_own O2
  have HL2 := Lib.hid (HL1.out.below b2 lx ly)
  clear b2 B1 O2 HL1 x0 x1 x2 y0 y1 y2 lx ly
  go_wp2_with fail
  (with_reducible refine (HSS.out _ _ _ S1 S2).mono ?_)
  rintro e w3 ⟨rfl, b3⟩
  have B3 := B2.trans (b3.mono B2.size)
  have HL3 := Lib.hid (HL2.out.below b3 HL2.out.2.2.2.2.2.2.1 HL2.out.2.2.2.2.2.2.2)
  have S1 := S1.below b3 (Nat.le_refl _)
  clear b3 B2 S2 HL2 HSS
  obtain ⟨m, hm⟩ : ∃ m, m = xs.length := ⟨_, rfl⟩
  have HM := Lib.hid hm
  rw [← hm] at hlen
  obtain ⟨hm19, hm0, hml⟩ := hlen
  have HML := Lib.hid hml
  have HS3 := Lib.hid S1
  obtain ⟨b, o, c', rfl, hnc, hcm, hb, hcell⟩ : ∃ b o c', v1 = .slice (some ⟨b, o, none⟩) m c' ∧ m ≤ c' ∧ c' ≤ maxLen ∧ b < w3.heap.size ∧ ∀ i, i < xs.length * 6 → w3.cell? ⟨b, o + i, none⟩ = (xs.flatMap encSp)[i]? := by
    rcases S1.2 with ⟨h0, _⟩ | ⟨b, o, c', rfl, h1, h2, h3, h4⟩
    · omega
    · exact ⟨b, o, c', by rw [hm], by omega, h2, h3, h4⟩
  unfold maxLen at hcm
  have HC := Lib.hid hcell
  have B3' := B0.trans (B3.mono B0.size)
  have hw3 : 1 < w3.heap.size := Nat.lt_of_lt_of_le (by have := HEW.out; obtain ⟨_, _, _, h⟩ := this; exact h) B3.size
  have HB3 := Lib.hid B3'
  have HE3 := Lib.hid (HEW.out.below B3 (by have := HEW.out; obtain ⟨_, _, _, h⟩ := this; exact h))
  clear hm hcell S1 hml P HI HS HEW B0 B3 B3'
  have LP := splitOk_pair HSP.out
  obtain ⟨G, hG⟩ : ∃ G, G = (if j = 0 then bad else facR s l j) := ⟨_, rfl⟩
  obtain ⟨H, hH⟩ : ∃ H, H = (if j' = 0 then bad else facR s' l' j') := ⟨_, rfl⟩
  have hnorm : G.ok = true → H.ok = true → G.n = H.n → G.d = H.d → ∃ w : Ro, w.ok = true ∧ spanL xs = w ∧ addQ (absR G) (absR G) = w ∧ (-1000000000 ≤ G.n ∧ G.n ≤ 1000000000) := by
    intro g1 g2 g3 g4
    have hx := HXL.out
    have hP := HP.out
    have ha := HA.out
    have hc := HC'.out
    clear HXL HC HM HL3
    subst hx
    by_cases hj : j = 0
    · rw [if_pos hj] at hG; subst hG; cases g1
    · rw [if_neg hj] at hG
      by_cases hj2 : j' = 0
      · rw [if_pos hj2] at hH; subst hH; cases g2
      · rw [if_neg hj2] at hH
        have e1 : facR s l j = mkR A (gd j) := by rw [ha]; rfl
        have e2 : facR s' l' j' = mkR C (gd j') := by rw [hc]; rfl
        rw [e1] at hG
        rw [e2] at hH
        rw [hG, hH] at g3 g4
        obtain ⟨w9, h1, h2, h3⟩ := hP.span_normal (fac_inv hP g3 g4)
        have hb := mk_bds (a := A) (b := gd j) ⟨by have := hP.ha; omega, by have := gd_bd hP.hx; omega⟩
        rw [hG]
        exact ⟨w9, h1, h2, h3, hb.1⟩
  have hF1 := fun W (hB : Below w3.heap.size w3 W) => iFactorOf s l j LP.a W (HE3.out.below hB hw3)
  have hF2 := fun W (hB : Below w3.heap.size w3 W) => iFactorOf s' l' j' LP.b W (HE3.out.below hB hw3)
  rw [← hG] at hF1
  rw [← hH] at hF2
  unfold roV at hF1 hF2
  obtain ⟨gn, gd, gk⟩ := G
  obtain ⟨hn', hd', hk⟩ := H
  simp only at hF1 hF2 hnorm
  have HF1 := Lib.hid hF1
  have HF2 := Lib.hid hF2
  have HNM := Lib.hid hnorm
  obtain ⟨x0, x1, x2, y0, y1, y2, lx, ly⟩ := HL3.out
  clear hF1 hF2 hnorm hG hH LP
  go_wp2_with fail
  (with_reducible refine (HF1.out _ (Below.refl _ _)).mono ?_)
  rintro e w4 ⟨rfl, b4⟩
  have HL4 := HL3.out.below b4 lx ly
  have hs4 := b4.size
  have HB4 := Lib.hid b4
  clear x0 x1 x2 y0 y1 y2 lx ly b4 HF1
  obtain ⟨x0, x1, x2, y0, y1, y2, lx, ly⟩ := HL4
  go_wp2_with fail
  (with_reducible refine (HF2.out _ (by have HB := HB4.out; exact (by repeat (first | (with_reducible refine Below.drew ?_) | (with_reducible refine below_drewN ?_ _) | (with_reducible refine Below.alloc ?_ ?_ _) | (with_reducible refine Below.setCell ?_ ?_ _) | (with_reducible assumption) | (with_reducible exact Below.refl _ _) | omega | (simp <;> omega))))).mono ?_)
  rintro e w5 ⟨rfl, b5⟩
  have TG5 : Two w5 w4.heap.size gn gd := (Two.new w4 gn gd 34).below b5 (by simp)
  have hs5 := b5.size
  have B5 : Below w3.heap.size w3 w5 := Below.trans (by have HB := HB4.out; exact (by repeat (first | (with_reducible refine Below.drew ?_) | (with_reducible refine below_drewN ?_ _) | (with_reducible refine Below.alloc ?_ ?_ _) | (with_reducible refine Below.setCell ?_ ?_ _) | (with_reducible assumption) | (with_reducible exact Below.refl _ _) | omega | (simp <;> omega)))) (b5.mono (by simp; omega))
  clear x0 x1 x2 y0 y1 y2 lx ly b5 HF2 HB4
  go_upto_region 10 with fail
  obtain ⟨wz, hwz⟩ : ∃ wz : World, wz = w5.alloc (.cells #[.int .i64 hn', .int .i64 hd'] 34) := ⟨_, rfl⟩
  have TGZ : Two wz w4.heap.size gn gd := by rw [hwz]; exact TG5.alloc _
  have THZ : Two wz w5.heap.size hn' hd' := by rw [hwz]; exact Two.new _ _ _ _
  have BZ : Below w3.heap.size w3 wz := by rw [hwz]; exact B5.alloc B5.size _
  rw [← hwz]
  obtain ⟨bG, hbG⟩ : ∃ bG, bG = w4.heap.size := ⟨_, rfl⟩
  obtain ⟨bH, hbH⟩ : ∃ bH, bH = w5.heap.size := ⟨_, rfl⟩
  rw [← hbG] at TGZ ⊢
  rw [← hbH] at THZ ⊢
  have hG3 : w3.heap.size ≤ bG := by omega
  clear hbG hbH hwz B5 TG5 hs4 hs5
  have HBZ := Lib.hid (HB3.out.trans (BZ.mono HB3.out.size))
  have HTG := Lib.hid TGZ
  obtain ⟨g0, g1, _, _, g4⟩ := TGZ
  obtain ⟨h0, h1, _, _, h4⟩ := THZ
  have hmp : (0 : Int) < (m : Int) := by omega
  have hmd : decide ((0 : Int) < (m : Int)) = true := decide_eq_true hmp
  cases gk
  · skip
    go_wp2
    go_ret
    exact ⟨by first | rfl | (congr 2; simp; omega), HBZ.out⟩
  cases hk
  · skip
    go_wp2
    go_ret
    exact ⟨by first | rfl | (congr 2; simp; omega), HBZ.out⟩
  by_cases e1 : gn = hn'
  case neg =>
    have e1' : (gn == hn') = false := beq_eq_false_iff_ne.2 e1
    have e1d : decide (gn = hn') = false := decide_eq_false e1
    go_wp2
    go_ret
    exact ⟨by first | rfl | (congr 2; simp; omega), HBZ.out⟩
  by_cases e2 : gd = hd'
  case neg =>
    have e2' : (gd == hd') = false := beq_eq_false_iff_ne.2 e2
    have e2d : decide (gd = hd') = false := decide_eq_false e2
    go_wp2
    go_ret
    exact ⟨by first | rfl | (congr 2; simp; omega), HBZ.out⟩
  have HNX := Lib.hid (HNM.out rfl rfl e1 e2)
  clear HNM
  subst e1 e2
  obtain ⟨⟨wn, wd, wk⟩, hwk, hsp, hadd, hb1, hb2⟩ := HNX.out
  simp only at hwk
  subst hwk
  have hSP := fun W (hB : Below wz.heap.size wz W) => iSplitSpan xs _ W ((HS3.out.below BZ (Nat.le_refl _)).below hB (Nat.le_refl _)) (by have := HM.out; omega)
  rw [hsp] at hSP
  unfold roV at hSP
  have HSPN := Lib.hid hSP
  have HBB := Lib.hid BZ
  have HGB := Lib.hid hG3
  clear HNX hsp hSP BZ hG3
  go_wp2_with fail
  (with_reducible refine (HSPN.out _ (Below.refl _ _)).mono ?_)
  rintro e wa21 ⟨rfl, ba⟩
  replace HTG := Lib.hid (HTG.out.below ba HTG.out.2.2.2.2)
  replace HBB := Lib.hid (HBB.out.trans (ba.mono HBB.out.size))
  clear ba 
  clear g0 g1 g4 h0 h1 h4 HSPN
  go_upto_region 13 with fail
  have qHTS_HTG := HTG.out.2.2.2.2
  obtain ⟨wb21, hwn⟩ : ∃ W : World, W = wa21.alloc (.cells #[.int .i64 (wn), .int .i64 (wd)] 34) := ⟨_, rfl⟩
  have HTS : Hid (Two wb21 wa21.heap.size (wn) (wd)) := Lib.hid (by rw [hwn]; exact Two.new _ _ _ _)
  replace HTG : Hid (Two wb21 bG (gn) (gd)) := Lib.hid (by rw [hwn]; exact HTG.out.alloc _)
  replace HBB : Hid (Below w3.heap.size w3 wb21) := Lib.hid (by rw [hwn]; exact HBB.out.alloc HBB.out.size _)
  rw [← hwn]
  obtain ⟨bHTS, hbn⟩ : ∃ x, x = wa21.heap.size := ⟨_, rfl⟩
  rw [← hbn] at HTS qHTS_HTG ⊢
  clear hwn hbn
  by_cases hg : gn < 0
  · have hgd : decide (gn < 0) = true := decide_eq_true hg
    have ea : absR ⟨gn, gd, true⟩ = ⟨-gn, gd, true⟩ := by unfold absR; rw [if_pos hg]; simp
    rw [ea] at hadd
    have hA := fun W => iRatAdd (-gn) gd (-gn) gd W
    have ha2 : addR (-gn) gd (-gn) gd = ⟨wn, wd, true⟩ := hadd
    rw [ha2] at hA
    unfold roV at hA
    have HA2 := Lib.hid hA
    have HMN := Lib.hid (fun W => lminus gn gd W hb1 hb2)
    have HGS := Lib.hid (show bG ≠ bHTS from Nat.ne_of_lt qHTS_HTG)
    clear hA ha2 hadd ea hb1 hb2
    obtain ⟨HTG_0, HTG_1, HTG_2, HTG_3, HTG_4⟩ := HTG.out
    go_wp2_with fail
    (with_reducible refine (HMN.out _).mono ?_)
    rintro e wa22 ⟨rfl, ba⟩
    replace HTG := Lib.hid (HTG.out.below ba HTG.out.2.2.2.2)
    replace HTS := Lib.hid (HTS.out.below ba HTS.out.2.2.2.2)
    replace HBB := Lib.hid (HBB.out.trans (ba.mono HBB.out.size))
    clear ba HTG_0 HTG_1 HTG_2 HTG_3 HTG_4
    obtain ⟨g0, g1, g2, g3, g4⟩ := HTG.out
    go_upto_region 15 with fail
    obtain ⟨ws, hws⟩ : ∃ W : World, W = (wa22.setCell ⟨bG, 0, none⟩ (.int .i64 (-gn))).setCell ⟨bG, 1, none⟩ (.int .i64 gd) := ⟨_, rfl⟩
    have HTN : Hid (Two ws bG (-gn) gd) := Lib.hid (by rw [hws]; exact HTG.out.put _ _)
    replace HTS : Hid (Two ws bHTS wn wd) := Lib.hid (by rw [hws]; exact (HTS.out.set HGS.out _).set HGS.out _)
    replace HBB : Hid (Below w3.heap.size w3 ws) := Lib.hid (by rw [hws]; exact (HBB.out.setCell HGB.out _).setCell HGB.out _)
    rw [← hws]
    clear hws g0 g1 g2 g3 g4 HTG HMN
    obtain ⟨HTN_0, HTN_1, HTN_2, HTN_3, HTN_4⟩ := HTN.out
    go_wp2_with fail
    (with_reducible refine (HA2.out _).mono ?_)
    rintro e wa23 ⟨rfl, ba⟩
    replace HTN := Lib.hid (HTN.out.below ba HTN.out.2.2.2.2)
    replace HTS := Lib.hid (HTS.out.below ba HTS.out.2.2.2.2)
    replace HBB := Lib.hid (HBB.out.trans (ba.mono HBB.out.size))
    clear ba HTN_0 HTN_1 HTN_2 HTN_3 HTN_4
    go_upto_region 16 with fail
    obtain ⟨wb23, hwn⟩ : ∃ W : World, W = wa23.alloc (.cells #[.int .i64 (wn), .int .i64 (wd)] 34) := ⟨_, rfl⟩
    have HTW : Hid (Two wb23 wa23.heap.size (wn) (wd)) := Lib.hid (by rw [hwn]; exact Two.new _ _ _ _)
    replace HTN : Hid (Two wb23 bG (-gn) (gd)) := Lib.hid (by rw [hwn]; exact HTN.out.alloc _)
    replace HTS : Hid (Two wb23 bHTS (wn) (wd)) := Lib.hid (by rw [hwn]; exact HTS.out.alloc _)
    replace HBB : Hid (Below w3.heap.size w3 wb23) := Lib.hid (by rw [hwn]; exact HBB.out.alloc HBB.out.size _)
    rw [← hwn]
    obtain ⟨bHTW, hbn⟩ : ∃ x, x = wa23.heap.size := ⟨_, rfl⟩
    rw [← hbn] at HTW ⊢
    clear hwn hbn
    obtain ⟨s0, s1, _, _, s4⟩ := HTS.out
    obtain ⟨t0, t1, _, _, t4⟩ := HTW.out
    have B9 := HB3.out.trans (HBB.out.mono HB3.out.size)
    go_wp2
    go_ret
    exact ⟨rfl, B9⟩
  · have hgd : decide (gn < 0) = false := decide_eq_false hg
    have ea : absR ⟨gn, gd, true⟩ = ⟨gn, gd, true⟩ := by unfold absR; rw [if_neg hg]
    rw [ea] at hadd
    have hA := fun W => iRatAdd gn gd gn gd W
    have ha2 : addR gn gd gn gd = ⟨wn, wd, true⟩ := hadd
    rw [ha2] at hA
    unfold roV at hA
    have HA2 := Lib.hid hA
    clear hA ha2 hadd ea hb1 hb2
    obtain ⟨HTG_0, HTG_1, HTG_2, HTG_3, HTG_4⟩ := HTG.out
    go_wp2_with fail
    (with_reducible refine (HA2.out _).mono ?_)
    rintro e wa22 ⟨rfl, ba⟩
    replace HTG := Lib.hid (HTG.out.below ba HTG.out.2.2.2.2)
    replace HTS := Lib.hid (HTS.out.below ba HTS.out.2.2.2.2)
    replace HBB := Lib.hid (HBB.out.trans (ba.mono HBB.out.size))
    clear ba HTG_0 HTG_1 HTG_2 HTG_3 HTG_4
    go_upto_region 16 with fail
    obtain ⟨wb22, hwn⟩ : ∃ W : World, W = wa22.alloc (.cells #[.int .i64 (wn), .int .i64 (wd)] 34) := ⟨_, rfl⟩
    have HTW : Hid (Two wb22 wa22.heap.size (wn) (wd)) := Lib.hid (by rw [hwn]; exact Two.new _ _ _ _)
    replace HTG : Hid (Two wb22 bG (gn) (gd)) := Lib.hid (by rw [hwn]; exact HTG.out.alloc _)
    replace HTS : Hid (Two wb22 bHTS (wn) (wd)) := Lib.hid (by rw [hwn]; exact HTS.out.alloc _)
    replace HBB : Hid (Below w3.heap.size w3 wb22) := Lib.hid (by rw [hwn]; exact HBB.out.alloc HBB.out.size _)
    rw [← hwn]
    obtain ⟨bHTW, hbn⟩ : ∃ x, x = wa22.heap.size := ⟨_, rfl⟩
    rw [← hbn] at HTW ⊢
    clear hwn hbn
    obtain ⟨s0, s1, _, _, s4⟩ := HTS.out
    obtain ⟨t0, t1, _, _, t4⟩ := HTW.out
    have B9 := HB3.out.trans (HBB.out.mono HB3.out.size)
    go_wp2
    go_ret
    exact ⟨rfl, B9⟩
end Go.Proofs.YtpollgibgphipaaDoor.WFnSplitSpanNormal
