/-
  The walk of the law FnSplitNormal.
-/
import Derived.Test.YtdejlinldocfjaaDoorSplitLaws
import Derived.Test.YtdejlinldocfjaaDoorRowsSplit
import Derived.Test.YtdejlinldocfjaaDoorDrawSpl
import Derived.Test.YtdejlinldocfjaaDoorSplI
import Derived.Test.YtdejlinldocfjaaDoorSplS
import Derived.Test.YtdejlinldocfjaaDoorSplD
import Derived.BigQuiet
import Derived.Test.YtdejlinldocfjaaDoorRegM
import Derived.Deep.DeepCutAuto
namespace Go.Proofs.YtdejlinldocfjaaDoor.WFnSplitNormal
open Go.RowKit Go.Proofs.YtdejlinldocfjaaDoor.RatP Go.Proofs.YtdejlinldocfjaaDoor.ChoP Go.Proofs.YtdejlinldocfjaaDoor.Rat Go.Proofs.YtdejlinldocfjaaDoor.Spin Go.Proofs.YtdejlinldocfjaaDoor.Row Go.Proofs.YtdejlinldocfjaaDoor.Later Go.Proofs.YtdejlinldocfjaaDoor.SplitPlain Go.Proofs.YtdejlinldocfjaaDoor.SplitDef Go.Proofs.YtdejlinldocfjaaDoor.SplitP Go.Proofs.YtdejlinldocfjaaDoor.Fac Go.Proofs.YtdejlinldocfjaaDoor.FacI Go.Proofs.YtdejlinldocfjaaDoor.SplitLaws Go.Proofs.YtdejlinldocfjaaDoor.Two Go.Proofs.YtdejlinldocfjaaDoor.Rd Go.Proofs.YtdejlinldocfjaaDoor.DrawSpl Go.Proofs.YtdejlinldocfjaaDoor.SplS Go.Proofs.YtdejlinldocfjaaDoor.SplI Go.Proofs.YtdejlinldocfjaaDoor.SplD Go.Proofs.YtdejlinldocfjaaDoor.RegM
set_option linter.unusedVariables false
set_option linter.unusedSimpArgs false

set_option maxRecDepth 100000 in
set_option maxHeartbeats 8000000 in
theorem fnSplitNormal (a : Option Addr) (n c : Nat) (zs : List Int) (w0 : World) (hE : Errs w0) (h : IsRow .u8 w0 a n c zs) :
    Calls Tryd.prog 7 #[.slice a n c] w0 (Yes w0) := by
  have HO := Lib.hid (drawSplitOf a n c zs w0 h)
  have HE := Lib.hid hE
  clear h hE
  by_cases hn : 1048576 < n
  · go_enter Tryd.func7, Tryd.ntmps7
    go_wp2_with fail
    all_goals go_ret
    all_goals exact ⟨rfl, Below.refl _ _⟩
  have hd1 : decide ((1048576 : Int) < (n : Int)) = false := decide_eq_false (by omega)
  go_enter Tryd.func7, Tryd.ntmps7
  go_wp2_with fail
  refine HO.out.mono ?_
  rintro e w ⟨s, l, j, s', l', j', rfl, B0⟩
  clear HO
  cases hs : splitOk s l j s' l' j'
  · have HI := Lib.hid (fun W (_ : Below w.heap.size w W) => iSplitOf_no s l j s' l' j' W hs)
    have HS := Lib.hid (fun W => sSplitOf_no s l j s' l' j' W hs)
    have HSS := Lib.hid (fun W v1 v2 h1 h2 => RowsSplit.sameSplits [] v1 v2 W h1 h2)
    clear hs HE
    have LV0 := lv6_two w s l j s' l' j'
    have BZ0 : Below w.heap.size w ((w.alloc (.cells #[.int .i64 s, .int .i64 l, .int .i64 j] 31)).alloc (.cells #[.int .i64 s', .int .i64 l', .int .i64 j'] 31)) := (by repeat (first | (with_reducible refine Below.drew ?_) | (with_reducible refine below_drewN ?_ _) | (with_reducible refine Below.alloc ?_ ?_ _) | (with_reducible refine Below.setCell ?_ ?_ _) | (with_reducible assumption) | (with_reducible exact Below.refl _ _) | omega | (simp <;> omega)))
    have hz0 : ((w.alloc (.cells #[.int .i64 s, .int .i64 l, .int .i64 j] 31)).alloc (.cells #[.int .i64 s', .int .i64 l', .int .i64 j'] 31)).heap.size = w.heap.size + 2 := by simp
    have HZ0 := Lib.hid hz0
    clear hz0
    go_wp2_with fail
    (with_reducible refine (HI.out _ BZ0).mono ?_)
    rintro e w1 ⟨v1, rfl, O1, b1⟩
    have B1 := BZ0.trans (b1.mono BZ0.size)
    have LV1 := LV0.below b1 (by have := HZ0.out; omega) (by have := HZ0.out; omega)
    have S1 := Sees.of_own O1
    clear b1 LV0 BZ0 HZ0 O1
    have HL1 := Lib.hid LV1
    obtain ⟨x0, x1, x2, y0, y1, y2, lx, ly⟩ := LV1
    go_wp2_with fail
    (with_reducible refine (HS.out _).mono ?_)
    rintro e w2 ⟨v2, rfl, O2, b2⟩
    have B2 := B1.trans (b2.mono B1.size)
    have S1 := S1.below b2 (Nat.le_refl _)
    have S2 := Sees.of_own O2
    have HL2 := Lib.hid (HL1.out.below b2 lx ly)
    clear b2 B1 O2 HL1 x0 x1 x2 y0 y1 y2 lx ly
    go_wp2_with fail
    (with_reducible refine (HSS.out _ _ _ S1 S2).mono ?_)
    rintro e w3 ⟨rfl, b3⟩
    have B3 := B2.trans (b3.mono B2.size)
    have S1 := S1.below b3 (Nat.le_refl _)
    have S2 := S2.below b3 (Nat.le_refl _)
    clear b3 B2
    go_wp2_with fail
    (with_reducible refine (HSS.out _ _ _ S1 S2).mono ?_)
    rintro e w4 ⟨rfl, b4⟩
    have B4 := B3.trans (b4.mono B3.size)
    go_wp2
    go_ret
    exact ⟨rfl, B0.trans (B4.mono B0.size)⟩
  have P := (splitOk_pair hs).pair
  have HEW := Lib.hid (HE.out.below B0 (by have := HE.out; obtain ⟨_, _, _, h⟩ := this; exact h))
  have HI := Lib.hid (fun W (hB : Below w.heap.size w W) => iSplitOf_yes s l j s' l' j' W hs (HEW.out.below hB (by have := HEW.out; obtain ⟨_, _, _, h⟩ := this; exact h)))
  have HS := Lib.hid (fun W => sSplitOf_yes s l j s' l' j' W hs)
  have HSP := Lib.hid hs
  obtain ⟨A, hA⟩ : ∃ A, A = gn s l j := ⟨_, rfl⟩
  obtain ⟨C, hC⟩ : ∃ C, C = gn s' l' j' := ⟨_, rfl⟩
  obtain ⟨xs, hxs⟩ : ∃ xs, xs = splitS s l j s' l' j' := ⟨_, rfl⟩
  have hxl : xs = splitL j j' A C := by rw [hxs, hA, hC]; rfl
  rw [← hxs] at HI HS
  rw [← hA, ← hC] at P
  have HA := Lib.hid hA
  have HC' := Lib.hid hC
  have HXL := Lib.hid hxl
  have HSS := Lib.hid (fun W v1 v2 h1 h2 => RowsSplit.sameSplits xs v1 v2 W h1 h2)
  have hlen := P.len_is
  rw [← hxl] at hlen
  have HP := Lib.hid P
  clear hs HE hA hC hxs hxl
  have LV0 := lv6_two w s l j s' l' j'
  have BZ0 : Below w.heap.size w ((w.alloc (.cells #[.int .i64 s, .int .i64 l, .int .i64 j] 31)).alloc (.cells #[.int .i64 s', .int .i64 l', .int .i64 j'] 31)) := (by repeat (first | (with_reducible refine Below.drew ?_) | (with_reducible refine below_drewN ?_ _) | (with_reducible refine Below.alloc ?_ ?_ _) | (with_reducible refine Below.setCell ?_ ?_ _) | (with_reducible assumption) | (with_reducible exact Below.refl _ _) | omega | (simp <;> omega)))
  have hz0 : ((w.alloc (.cells #[.int .i64 s, .int .i64 l, .int .i64 j] 31)).alloc (.cells #[.int .i64 s', .int .i64 l', .int .i64 j'] 31)).heap.size = w.heap.size + 2 := by simp
  have HZ0 := Lib.hid hz0
  clear hz0
  go_wp2_with fail
  (with_reducible refine (HI.out _ BZ0).mono ?_)
  rintro e w1 ⟨v1, rfl, O1, b1⟩
  have B1 := BZ0.trans (b1.mono BZ0.size)
  have LV1 := LV0.below b1 (by have := HZ0.out; omega) (by have := HZ0.out; omega)
  have S1 := Sees.of_own O1
  clear b1 LV0 BZ0 HZ0 O1
  have HL1 := Lib.hid LV1
  obtain ⟨x0, x1, x2, y0, y1, y2, lx, ly⟩ := LV1
  go_wp2_with fail
  (with_reducible refine (HS.out _).mono ?_)
  rintro e w2 ⟨v2, rfl, O2, b2⟩
  have B2 := B1.trans (b2.mono B1.size)
  have S1 := S1.below b2 (Nat.le_refl _)
  have S2 := Sees.of_own O2
  have HL2 := Lib.hid (HL1.out.below b2 lx ly)
  clear b2 B1 O2 HL1 x0 x1 x2 y0 y1 y2 lx ly
  go_wp2_with fail
  (with_reducible refine (HSS.out _ _ _ S1 S2).mono ?_)
  rintro e w3 ⟨rfl, b3⟩
  have B3 := B2.trans (b3.mono B2.size)
  have HL3 := Lib.hid (HL2.out.below b3 HL2.out.2.2.2.2.2.2.1 HL2.out.2.2.2.2.2.2.2)
  have S1 := S1.below b3 (Nat.le_refl _)
  clear b3 B2 S2 HL2 HSS
  obtain ⟨m, hm⟩ : ∃ m, m = xs.length := ⟨_, rfl⟩
  have HM := Lib.hid hm
  rw [← hm] at hlen
  obtain ⟨hm19, hm0, hml⟩ := hlen
  have HML := Lib.hid hml
  obtain ⟨b, o, c', rfl, hnc, hcm, hb, hcell⟩ : ∃ b o c', v1 = .slice (some ⟨b, o, none⟩) m c' ∧ m ≤ c' ∧ c' ≤ maxLen ∧ b < w3.heap.size ∧ ∀ i, i < xs.length * 6 → w3.cell? ⟨b, o + i, none⟩ = (xs.flatMap encSp)[i]? := by
    rcases S1.2 with ⟨h0, _⟩ | ⟨b, o, c', rfl, h1, h2, h3, h4⟩
    · omega
    · exact ⟨b, o, c', by rw [hm], by omega, h2, h3, h4⟩
  unfold maxLen at hcm
  have HC := Lib.hid hcell
  have B3' := B0.trans (B3.mono B0.size)
  have hw3 : 1 < w3.heap.size := Nat.lt_of_lt_of_le (by have := HEW.out; obtain ⟨_, _, _, h⟩ := this; exact h) B3.size
  have HB3 := Lib.hid B3'
  have HE3 := Lib.hid (HEW.out.below B3 (by have := HEW.out; obtain ⟨_, _, _, h⟩ := this; exact h))
  clear hm hcell S1 hml P HI HS HEW B0 B3 B3'
  have LP := splitOk_pair HSP.out
  obtain ⟨G, hG⟩ : ∃ G, G = (if j = 0 then bad else facR s l j) := ⟨_, rfl⟩
  obtain ⟨H, hH⟩ : ∃ H, H = (if j' = 0 then bad else facR s' l' j') := ⟨_, rfl⟩
  have hnorm : G.ok = true → H.ok = true → G.n = H.n → G.d = H.d → ∀ i (hi : i < xs.length), mulQ G ⟨(xs[i].u - xs[i].l) / 2, 1, true⟩ = ⟨xs[i].p, xs[i].q, true⟩ := by
    intro g1 g2 g3 g4 i hi
    have hx := HXL.out
    have hP := HP.out
    have ha := HA.out
    have hc := HC'.out
    clear HXL HC HM HL3
    subst hx
    by_cases hj : j = 0
    · rw [if_pos hj] at hG; subst hG; cases g1
    · rw [if_neg hj] at hG
      by_cases hj2 : j' = 0
      · rw [if_pos hj2] at hH; subst hH; cases g2
      · rw [if_neg hj2] at hH
        have e1 : facR s l j = mkR A (gd j) := by rw [ha]; rfl
        have e2 : facR s' l' j' = mkR C (gd j') := by rw [hc]; rfl
        rw [e1] at hG
        rw [e2] at hH
        rw [hG, hH] at g3 g4
        rw [hG]
        exact hP.normal (fac_inv hP g3 g4) hi
  have hF1 := fun W (hB : Below w3.heap.size w3 W) => iFactorOf s l j LP.a W (HE3.out.below hB hw3)
  have hF2 := fun W (hB : Below w3.heap.size w3 W) => iFactorOf s' l' j' LP.b W (HE3.out.below hB hw3)
  rw [← hG] at hF1
  rw [← hH] at hF2
  unfold roV at hF1 hF2
  obtain ⟨gn, gd, gk⟩ := G
  obtain ⟨hn', hd', hk⟩ := H
  simp only at hF1 hF2 hnorm
  have HF1 := Lib.hid hF1
  have HF2 := Lib.hid hF2
  have HNM := Lib.hid hnorm
  obtain ⟨x0, x1, x2, y0, y1, y2, lx, ly⟩ := HL3.out
  clear hF1 hF2 hnorm hG hH LP
  go_wp2_with fail
  (with_reducible refine (HF1.out _ (Below.refl _ _)).mono ?_)
  rintro e w4 ⟨rfl, b4⟩
  have HL4 := HL3.out.below b4 lx ly
  have hs4 := b4.size
  have HB4 := Lib.hid b4
  clear x0 x1 x2 y0 y1 y2 lx ly b4 HF1
  obtain ⟨x0, x1, x2, y0, y1, y2, lx, ly⟩ := HL4
  go_wp2_with fail
  (with_reducible refine (HF2.out _ (by have HB := HB4.out; exact (by repeat (first | (with_reducible refine Below.drew ?_) | (with_reducible refine below_drewN ?_ _) | (with_reducible refine Below.alloc ?_ ?_ _) | (with_reducible refine Below.setCell ?_ ?_ _) | (with_reducible assumption) | (with_reducible exact Below.refl _ _) | omega | (simp <;> omega))))).mono ?_)
  rintro e w5 ⟨rfl, b5⟩
  have TG5 : Two w5 w4.heap.size gn gd := (Two.new w4 gn gd 40).below b5 (by simp)
  have hs5 := b5.size
  have B5 : Below w3.heap.size w3 w5 := Below.trans (by have HB := HB4.out; exact (by repeat (first | (with_reducible refine Below.drew ?_) | (with_reducible refine below_drewN ?_ _) | (with_reducible refine Below.alloc ?_ ?_ _) | (with_reducible refine Below.setCell ?_ ?_ _) | (with_reducible assumption) | (with_reducible exact Below.refl _ _) | omega | (simp <;> omega)))) (b5.mono (by simp; omega))
  clear x0 x1 x2 y0 y1 y2 lx ly b5 HF2 HB4
  go_upto_region 10 with fail
  obtain ⟨wz, hwz⟩ : ∃ wz : World, wz = w5.alloc (.cells #[.int .i64 hn', .int .i64 hd'] 40) := ⟨_, rfl⟩
  have TGZ : Two wz w4.heap.size gn gd := by rw [hwz]; exact TG5.alloc _
  have THZ : Two wz w5.heap.size hn' hd' := by rw [hwz]; exact Two.new _ _ _ _
  have BZ : Below w3.heap.size w3 wz := by rw [hwz]; exact B5.alloc B5.size _
  rw [← hwz]
  obtain ⟨bG, hbG⟩ : ∃ bG, bG = w4.heap.size := ⟨_, rfl⟩
  obtain ⟨bH, hbH⟩ : ∃ bH, bH = w5.heap.size := ⟨_, rfl⟩
  rw [← hbG] at TGZ ⊢
  rw [← hbH] at THZ ⊢
  clear hbG hbH hwz B5 TG5 hs4 hs5
  have HBZ := Lib.hid (HB3.out.trans (BZ.mono HB3.out.size))
  have HTG := Lib.hid TGZ
  obtain ⟨g0, g1, _, _, g4⟩ := TGZ
  obtain ⟨h0, h1, _, _, h4⟩ := THZ
  have hmp : (0 : Int) < (m : Int) := by omega
  have hmd : decide ((0 : Int) < (m : Int)) = true := decide_eq_true hmp
  cases gk
  · skip
    go_wp2
    go_ret
    exact ⟨by first | rfl | (congr 2; simp; omega), HBZ.out⟩
  cases hk
  · skip
    go_wp2
    go_ret
    exact ⟨by first | rfl | (congr 2; simp; omega), HBZ.out⟩
  by_cases e1 : gn = hn'
  case neg =>
    have e1' : (gn == hn') = false := beq_eq_false_iff_ne.2 e1
    have e1d : decide (gn = hn') = false := decide_eq_false e1
    go_wp2
    go_ret
    exact ⟨by first | rfl | (congr 2; simp; omega), HBZ.out⟩
  by_cases e2 : gd = hd'
  case neg =>
    have e2' : (gd == hd') = false := beq_eq_false_iff_ne.2 e2
    have e2d : decide (gd = hd') = false := decide_eq_false e2
    go_wp2
    go_ret
    exact ⟨by first | rfl | (congr 2; simp; omega), HBZ.out⟩
  have HNX := Lib.hid (HNM.out rfl rfl e1 e2)
  clear HNM
  subst e1 e2
  go_wp2
  go_loopw [13] (fun i wr => ∃ q : Nat, q ≤ m ∧ i = .int .i64 q ∧ Below wz.heap.size wz wr) (fun i _ => m - (intOf i).toNat)
  case atStart => exact ⟨0, by omega, rfl, Below.refl _ _⟩
  case round =>
    obtain ⟨i, hi, rfl, hB⟩ := hrel
    by_cases hlt : i < m
    · have hi1 : (i : Int) < (m : Int) := by omega
      have hil : i < xs.length := by have := HM.out; omega
      have hbw : b < wr.heap.size := Nat.lt_of_lt_of_le hb (Nat.le_trans BZ.size hB.size)
      obtain ⟨u0, u1, u2, u3, u4, u5⟩ := RowsSplit.at_Split (w := wr) (xs := xs) (b := b) (o := o) (fun q hq => ((BZ.trans (hB.mono BZ.size)).cell (p := ⟨b, o + q, none⟩) hb).trans (HC.out q hq)) i hil
      have hnm := HNX.out i hil
      have hbd : xs[i].u - xs[i].l = -2 ∨ xs[i].u - xs[i].l = 0 ∨ xs[i].u - xs[i].l = 2 := by
        have hx := HXL.out
        have hP := HP.out
        clear u0 u1 u2 u3 u4 u5 HXL HC HM hnm HNX
        subst hx
        obtain ⟨e, he, _, h2⟩ := hP.get hil
        rw [h2]
        exact (hP.bd he).2.2.2.2
      have hb2 : (-6 ≤ xs[i].u ∧ xs[i].u ≤ 6) ∧ (-6 ≤ xs[i].l ∧ xs[i].l ≤ 6) := by
        have hx := HXL.out
        have hP := HP.out
        clear u0 u1 u2 u3 u4 u5 HXL HC HM hnm HNX
        subst hx
        have := sp_bds hP hil
        exact ⟨this.1, this.2.1⟩
      generalize xs[i] = e at *
      obtain ⟨eu, el, ep, eq, es, et⟩ := e
      simp only at u0 u1 u2 u3 u4 u5 hnm hbd hb2
      obtain ⟨⟨b1, b2⟩, b3, b4⟩ := hb2
      have HBR := Lib.hid hB
      have TGR := HTG.out.below hB g4
      obtain ⟨G0, G1, _, _, hbG⟩ := TGR
      clear g0 g1 h0 h1 hB
      rcases hbd with hd | hd | hd
      · have hdd : eu - el = -2 := hd
        rw [hdd] at hnm
        have HW := Lib.hid (fun W => lwhole (-1) W)
        have hRM := fun W => iRatMul gn gd (-1) 1 W
        have hmm : mulR gn gd (-1) 1 = ⟨ep, eq, true⟩ := hnm
        rw [hmm] at hRM
        unfold roV at hRM
        have HRM := Lib.hid hRM
        have hwa : IntKind.i64.wrap (-2) = -2 := IntWalk.i64_in _ (by omega)
        have hwb : Int.tdiv (-2) 2 = -1 := by decide
        have hwc : IntKind.i64.wrap (-1) = -1 := IntWalk.i64_in _ (by omega)
        clear hRM hmm hnm
        go_wp2_with fail
        go_upto_region 15 with fail
        go_cut [14, 15] (fun s1 s2 wx => ∃ T : Nat, s1 = .pointer (some ⟨T, 0, none⟩) ∧ s2 = .bool true ∧ Two wx T ep eq ∧ wr.heap.size ≤ T ∧ Below wr.heap.size wr wx)
        case first =>
          clear HNX HXL HP HA HC' HBZ HTG HBR HC HL3 HE3 HSP HB3 HML HM u2 u3
          have Z0G0 := Lib.hid G0
          have Z0G1 := Lib.hid G1
          have Z0u0 := Lib.hid u0
          have Z0u1 := Lib.hid u1
          go_region_held3 (fun w' => w'.cell? ⟨bG, 0, none⟩ = some (.int .i64 (gn)) ∧ w'.cell? ⟨bG, 1, none⟩ = some (.int .i64 (gd)) ∧ w'.cell? ⟨b, o + i * 6, none⟩ = some (.int .i64 (eu)) ∧ w'.cell? ⟨b, o + i * 6 + 1, none⟩ = some (.int .i64 (el)))
            (first | with_reducible exact ⟨G0, G1, u0, u1⟩ | (refine ⟨?_, ?_, ?_, ?_⟩ <;> (repeat (first | (with_reducible assumption) | (with_reducible refine cd ?_) | (with_reducible refine ca ?_ (by first | omega | (simp <;> omega)) _) | (with_reducible refine cs ?_ (by first | omega | (simp <;> omega)) _)))))
            (first | (go_at_call 21; (with_reducible refine (HRM.out _).mono ?_); rintro e wq2 ⟨rfl, bq2⟩; have BQ2 : Below wr.heap.size wr wq2 := Below.trans (by repeat (first | (with_reducible refine Below.drew ?_) | (with_reducible refine below_drewN ?_ _) | (with_reducible refine Below.alloc ?_ ?_ _) | (with_reducible refine Below.setCell ?_ ?_ _) | (with_reducible assumption) | (with_reducible exact Below.refl _ _) | omega | (simp <;> omega))) (bq2.mono (by first | omega | (simp <;> omega))); have hq2 := BQ2.size; have hr2 := bq2.size; (try simp at hr2); have G0 := (BQ2.cell (p := ⟨bG, 0, none⟩) hbG).trans Z0G0.out; have G1 := (BQ2.cell (p := ⟨bG, 1, none⟩) hbG).trans Z0G1.out; have u0 := (BQ2.cell (p := ⟨b, o + i * 6, none⟩) hbw).trans Z0u0.out; have u1 := (BQ2.cell (p := ⟨b, o + i * 6 + 1, none⟩) hbw).trans Z0u1.out; (try (have TB2_0 : Two wq2 (wr.heap.size) 0 0 := (by first | ((repeat (first | (with_reducible assumption) | (with_reducible exact Two.new _ _ _ _) | (with_reducible exact two_new1 _ _ _ _ _) | (with_reducible refine Two.put (x := 0) (y := 0) ?_ _ _) | (with_reducible refine Two.drew ?_) | ((with_reducible refine two_at _ _ _ ?_); (simp; done)) | (with_reducible refine Two.alloc ?_ _) | (with_reducible refine two_below bq1 ?_) | (with_reducible refine two_below bq2 ?_) | (with_reducible refine Two.set ?_ (by first | omega | (simp <;> omega)) _))); done) | fail); have TH2_0 := Lib.hid TB2_0; obtain ⟨tc2_0, td2_0, tf2_0, tg2_0, tl2_0⟩ := TB2_0; have TB2_0 := TH2_0.out)); (try (have TB2_1 : Two wq2 (wq1.heap.size) 0 0 := (by first | ((repeat (first | (with_reducible assumption) | (with_reducible exact Two.new _ _ _ _) | (with_reducible exact two_new1 _ _ _ _ _) | (with_reducible refine Two.put (x := 0) (y := 0) ?_ _ _) | (with_reducible refine Two.drew ?_) | ((with_reducible refine two_at _ _ _ ?_); (simp; done)) | (with_reducible refine Two.alloc ?_ _) | (with_reducible refine two_below bq1 ?_) | (with_reducible refine two_below bq2 ?_) | (with_reducible refine Two.set ?_ (by first | omega | (simp <;> omega)) _))); done) | fail); have TH2_1 := Lib.hid TB2_1; obtain ⟨tc2_1, td2_1, tf2_1, tg2_1, tl2_1⟩ := TB2_1; have TB2_1 := TH2_1.out)); skip) | (go_at_call 19; (with_reducible refine (HW.out _).mono ?_); rintro e wq1 ⟨rfl, bq1⟩; have BQ1 : Below wr.heap.size wr wq1 := Below.trans (by repeat (first | (with_reducible refine Below.drew ?_) | (with_reducible refine below_drewN ?_ _) | (with_reducible refine Below.alloc ?_ ?_ _) | (with_reducible refine Below.setCell ?_ ?_ _) | (with_reducible assumption) | (with_reducible exact Below.refl _ _) | omega | (simp <;> omega))) (bq1.mono (by first | omega | (simp <;> omega))); have hq1 := BQ1.size; have hr1 := bq1.size; (try simp at hr1); have G0 := (BQ1.cell (p := ⟨bG, 0, none⟩) hbG).trans Z0G0.out; have G1 := (BQ1.cell (p := ⟨bG, 1, none⟩) hbG).trans Z0G1.out; have u0 := (BQ1.cell (p := ⟨b, o + i * 6, none⟩) hbw).trans Z0u0.out; have u1 := (BQ1.cell (p := ⟨b, o + i * 6 + 1, none⟩) hbw).trans Z0u1.out; (try (have TB1_0 : Two wq1 (wr.heap.size) 0 0 := (by first | ((repeat (first | (with_reducible assumption) | (with_reducible exact Two.new _ _ _ _) | (with_reducible exact two_new1 _ _ _ _ _) | (with_reducible refine Two.put (x := 0) (y := 0) ?_ _ _) | (with_reducible refine Two.drew ?_) | ((with_reducible refine two_at _ _ _ ?_); (simp; done)) | (with_reducible refine Two.alloc ?_ _) | (with_reducible refine two_below bq1 ?_) | (with_reducible refine two_below bq2 ?_) | (with_reducible refine Two.set ?_ (by first | omega | (simp <;> omega)) _))); done) | fail); have TH1_0 := Lib.hid TB1_0; obtain ⟨tc1_0, td1_0, tf1_0, tg1_0, tl1_0⟩ := TB1_0; have TB1_0 := TH1_0.out)); skip))
          all_goals go_wp2_with fail
          all_goals go_meet
          all_goals (refine ⟨_, rfl, rfl, ?_, ?_, ?_⟩)
          all_goals first | ((repeat (first | (with_reducible refine Below.drew ?_) | (with_reducible refine below_drewN ?_ _) | (with_reducible refine Below.alloc ?_ ?_ _) | (with_reducible refine Below.setCell ?_ ?_ _) | (with_reducible assumption) | (with_reducible exact Below.refl _ _) | omega | (simp <;> omega))); done) | ((repeat (first | (with_reducible assumption) | (with_reducible exact Two.new _ _ _ _) | (with_reducible exact two_new1 _ _ _ _ _) | (with_reducible refine Two.put (x := 0) (y := 0) ?_ _ _) | (with_reducible refine Two.drew ?_) | ((with_reducible refine two_at _ _ _ ?_); (simp; done)) | (with_reducible refine Two.alloc ?_ _) | (with_reducible refine two_below bq1 ?_) | (with_reducible refine two_below bq2 ?_) | (with_reducible refine Two.set ?_ (by first | omega | (simp <;> omega)) _))); done) | (trace_state; fail)
        case rest =>
          obtain ⟨Twn, rfl, rfl, TwnB, hwn, bwn⟩ := hcut
          obtain ⟨wn, rfl⟩ : ∃ x : World, x = wc := ⟨_, rfl⟩
          have u2 := (bwn.cell (p := ⟨b, o + i * 6 + 2, none⟩) hbw).trans u2
          have u3 := (bwn.cell (p := ⟨b, o + i * 6 + 3, none⟩) hbw).trans u3
          have hbw : b < wn.heap.size := Nat.lt_of_lt_of_le hbw bwn.size
          have B6 := HBR.out.trans (bwn.mono HBR.out.size)
          obtain ⟨t0, t1, _, _, ht4⟩ := TwnB
          clear u0 u1 G0 G1 bwn HW HRM
          go_wp2_with fail
          go_upto_region 16 with fail
          have f2 : ∀ p : Later wn.heap.size wn, p.W.cell? ⟨b, o + i * 6 + 2, none⟩ = some (.int .i64 (ep)) := Later.cell u2 hbw
          have f3 : ∀ p : Later wn.heap.size wn, p.W.cell? ⟨b, o + i * 6 + 3, none⟩ = some (.int .i64 (eq)) := Later.cell u3 hbw
          have f4 : ∀ p : Later wn.heap.size wn, p.W.cell? ⟨Twn, 0, none⟩ = some (.int .i64 (ep)) := Later.cell t0 ht4
          have f5 : ∀ p : Later wn.heap.size wn, p.W.cell? ⟨Twn, 1, none⟩ = some (.int .i64 (eq)) := Later.cell t1 ht4
          refine Later.wp_region_later (wn.heap.size) (by kernel_rfl) (by kernel_rfl) ?_
          repeat (first | go_big_quiet_step ((fail)) | quiet_step ((fail)))
          refine wpQuiet_nil ?_
          rintro w7 ⟨q7, hq7⟩
          have b7 := q7.h
          rw [← hq7] at b7
          clear hq7 q7
          have B7 := B6.trans (b7.mono B6.size)
          clear f2 f3 f4 f5
          go_wp2
          go_roundw
          case rel => exact ⟨i + 1, by omega, by go_num, B7⟩
          case measure => simp [intOf]; omega
      · have hdd : eu - el = 0 := hd
        rw [hdd] at hnm
        have HW := Lib.hid (fun W => lwhole (0) W)
        have hRM := fun W => iRatMul gn gd (0) 1 W
        have hmm : mulR gn gd (0) 1 = ⟨ep, eq, true⟩ := hnm
        rw [hmm] at hRM
        unfold roV at hRM
        have HRM := Lib.hid hRM
        have hwa : IntKind.i64.wrap (0) = 0 := IntWalk.i64_in _ (by omega)
        have hwb : Int.tdiv (0) 2 = 0 := by decide
        have hwc : IntKind.i64.wrap (0) = 0 := IntWalk.i64_in _ (by omega)
        clear hRM hmm hnm
        go_wp2_with fail
        go_upto_region 15 with fail
        go_cut [14, 15] (fun s1 s2 wx => ∃ T : Nat, s1 = .pointer (some ⟨T, 0, none⟩) ∧ s2 = .bool true ∧ Two wx T ep eq ∧ wr.heap.size ≤ T ∧ Below wr.heap.size wr wx)
        case first =>
          clear HNX HXL HP HA HC' HBZ HTG HBR HC HL3 HE3 HSP HB3 HML HM u2 u3
          have Z0G0 := Lib.hid G0
          have Z0G1 := Lib.hid G1
          have Z0u0 := Lib.hid u0
          have Z0u1 := Lib.hid u1
          go_region_held3 (fun w' => w'.cell? ⟨bG, 0, none⟩ = some (.int .i64 (gn)) ∧ w'.cell? ⟨bG, 1, none⟩ = some (.int .i64 (gd)) ∧ w'.cell? ⟨b, o + i * 6, none⟩ = some (.int .i64 (eu)) ∧ w'.cell? ⟨b, o + i * 6 + 1, none⟩ = some (.int .i64 (el)))
            (first | with_reducible exact ⟨G0, G1, u0, u1⟩ | (refine ⟨?_, ?_, ?_, ?_⟩ <;> (repeat (first | (with_reducible assumption) | (with_reducible refine cd ?_) | (with_reducible refine ca ?_ (by first | omega | (simp <;> omega)) _) | (with_reducible refine cs ?_ (by first | omega | (simp <;> omega)) _)))))
            (first | (go_at_call 21; (with_reducible refine (HRM.out _).mono ?_); rintro e wq2 ⟨rfl, bq2⟩; have BQ2 : Below wr.heap.size wr wq2 := Below.trans (by repeat (first | (with_reducible refine Below.drew ?_) | (with_reducible refine below_drewN ?_ _) | (with_reducible refine Below.alloc ?_ ?_ _) | (with_reducible refine Below.setCell ?_ ?_ _) | (with_reducible assumption) | (with_reducible exact Below.refl _ _) | omega | (simp <;> omega))) (bq2.mono (by first | omega | (simp <;> omega))); have hq2 := BQ2.size; have hr2 := bq2.size; (try simp at hr2); have G0 := (BQ2.cell (p := ⟨bG, 0, none⟩) hbG).trans Z0G0.out; have G1 := (BQ2.cell (p := ⟨bG, 1, none⟩) hbG).trans Z0G1.out; have u0 := (BQ2.cell (p := ⟨b, o + i * 6, none⟩) hbw).trans Z0u0.out; have u1 := (BQ2.cell (p := ⟨b, o + i * 6 + 1, none⟩) hbw).trans Z0u1.out; (try (have TB2_0 : Two wq2 (wr.heap.size) 0 0 := (by first | ((repeat (first | (with_reducible assumption) | (with_reducible exact Two.new _ _ _ _) | (with_reducible exact two_new1 _ _ _ _ _) | (with_reducible refine Two.put (x := 0) (y := 0) ?_ _ _) | (with_reducible refine Two.drew ?_) | ((with_reducible refine two_at _ _ _ ?_); (simp; done)) | (with_reducible refine Two.alloc ?_ _) | (with_reducible refine two_below bq1 ?_) | (with_reducible refine two_below bq2 ?_) | (with_reducible refine Two.set ?_ (by first | omega | (simp <;> omega)) _))); done) | fail); have TH2_0 := Lib.hid TB2_0; obtain ⟨tc2_0, td2_0, tf2_0, tg2_0, tl2_0⟩ := TB2_0; have TB2_0 := TH2_0.out)); (try (have TB2_1 : Two wq2 (wq1.heap.size) 0 0 := (by first | ((repeat (first | (with_reducible assumption) | (with_reducible exact Two.new _ _ _ _) | (with_reducible exact two_new1 _ _ _ _ _) | (with_reducible refine Two.put (x := 0) (y := 0) ?_ _ _) | (with_reducible refine Two.drew ?_) | ((with_reducible refine two_at _ _ _ ?_); (simp; done)) | (with_reducible refine Two.alloc ?_ _) | (with_reducible refine two_below bq1 ?_) | (with_reducible refine two_below bq2 ?_) | (with_reducible refine Two.set ?_ (by first | omega | (simp <;> omega)) _))); done) | fail); have TH2_1 := Lib.hid TB2_1; obtain ⟨tc2_1, td2_1, tf2_1, tg2_1, tl2_1⟩ := TB2_1; have TB2_1 := TH2_1.out)); skip) | (go_at_call 19; (with_reducible refine (HW.out _).mono ?_); rintro e wq1 ⟨rfl, bq1⟩; have BQ1 : Below wr.heap.size wr wq1 := Below.trans (by repeat (first | (with_reducible refine Below.drew ?_) | (with_reducible refine below_drewN ?_ _) | (with_reducible refine Below.alloc ?_ ?_ _) | (with_reducible refine Below.setCell ?_ ?_ _) | (with_reducible assumption) | (with_reducible exact Below.refl _ _) | omega | (simp <;> omega))) (bq1.mono (by first | omega | (simp <;> omega))); have hq1 := BQ1.size; have hr1 := bq1.size; (try simp at hr1); have G0 := (BQ1.cell (p := ⟨bG, 0, none⟩) hbG).trans Z0G0.out; have G1 := (BQ1.cell (p := ⟨bG, 1, none⟩) hbG).trans Z0G1.out; have u0 := (BQ1.cell (p := ⟨b, o + i * 6, none⟩) hbw).trans Z0u0.out; have u1 := (BQ1.cell (p := ⟨b, o + i * 6 + 1, none⟩) hbw).trans Z0u1.out; (try (have TB1_0 : Two wq1 (wr.heap.size) 0 0 := (by first | ((repeat (first | (with_reducible assumption) | (with_reducible exact Two.new _ _ _ _) | (with_reducible exact two_new1 _ _ _ _ _) | (with_reducible refine Two.put (x := 0) (y := 0) ?_ _ _) | (with_reducible refine Two.drew ?_) | ((with_reducible refine two_at _ _ _ ?_); (simp; done)) | (with_reducible refine Two.alloc ?_ _) | (with_reducible refine two_below bq1 ?_) | (with_reducible refine two_below bq2 ?_) | (with_reducible refine Two.set ?_ (by first | omega | (simp <;> omega)) _))); done) | fail); have TH1_0 := Lib.hid TB1_0; obtain ⟨tc1_0, td1_0, tf1_0, tg1_0, tl1_0⟩ := TB1_0; have TB1_0 := TH1_0.out)); skip))
          all_goals go_wp2_with fail
          all_goals go_meet
          all_goals (refine ⟨_, rfl, rfl, ?_, ?_, ?_⟩)
          all_goals first | ((repeat (first | (with_reducible refine Below.drew ?_) | (with_reducible refine below_drewN ?_ _) | (with_reducible refine Below.alloc ?_ ?_ _) | (with_reducible refine Below.setCell ?_ ?_ _) | (with_reducible assumption) | (with_reducible exact Below.refl _ _) | omega | (simp <;> omega))); done) | ((repeat (first | (with_reducible assumption) | (with_reducible exact Two.new _ _ _ _) | (with_reducible exact two_new1 _ _ _ _ _) | (with_reducible refine Two.put (x := 0) (y := 0) ?_ _ _) | (with_reducible refine Two.drew ?_) | ((with_reducible refine two_at _ _ _ ?_); (simp; done)) | (with_reducible refine Two.alloc ?_ _) | (with_reducible refine two_below bq1 ?_) | (with_reducible refine two_below bq2 ?_) | (with_reducible refine Two.set ?_ (by first | omega | (simp <;> omega)) _))); done) | (trace_state; fail)
        case rest =>
          obtain ⟨Twn, rfl, rfl, TwnB, hwn, bwn⟩ := hcut
          obtain ⟨wn, rfl⟩ : ∃ x : World, x = wc := ⟨_, rfl⟩
          have u2 := (bwn.cell (p := ⟨b, o + i * 6 + 2, none⟩) hbw).trans u2
          have u3 := (bwn.cell (p := ⟨b, o + i * 6 + 3, none⟩) hbw).trans u3
          have hbw : b < wn.heap.size := Nat.lt_of_lt_of_le hbw bwn.size
          have B6 := HBR.out.trans (bwn.mono HBR.out.size)
          obtain ⟨t0, t1, _, _, ht4⟩ := TwnB
          clear u0 u1 G0 G1 bwn HW HRM
          go_wp2_with fail
          go_upto_region 16 with fail
          have f2 : ∀ p : Later wn.heap.size wn, p.W.cell? ⟨b, o + i * 6 + 2, none⟩ = some (.int .i64 (ep)) := Later.cell u2 hbw
          have f3 : ∀ p : Later wn.heap.size wn, p.W.cell? ⟨b, o + i * 6 + 3, none⟩ = some (.int .i64 (eq)) := Later.cell u3 hbw
          have f4 : ∀ p : Later wn.heap.size wn, p.W.cell? ⟨Twn, 0, none⟩ = some (.int .i64 (ep)) := Later.cell t0 ht4
          have f5 : ∀ p : Later wn.heap.size wn, p.W.cell? ⟨Twn, 1, none⟩ = some (.int .i64 (eq)) := Later.cell t1 ht4
          refine Later.wp_region_later (wn.heap.size) (by kernel_rfl) (by kernel_rfl) ?_
          repeat (first | go_big_quiet_step ((fail)) | quiet_step ((fail)))
          refine wpQuiet_nil ?_
          rintro w7 ⟨q7, hq7⟩
          have b7 := q7.h
          rw [← hq7] at b7
          clear hq7 q7
          have B7 := B6.trans (b7.mono B6.size)
          clear f2 f3 f4 f5
          go_wp2
          go_roundw
          case rel => exact ⟨i + 1, by omega, by go_num, B7⟩
          case measure => simp [intOf]; omega
      · have hdd : eu - el = 2 := hd
        rw [hdd] at hnm
        have HW := Lib.hid (fun W => lwhole (1) W)
        have hRM := fun W => iRatMul gn gd (1) 1 W
        have hmm : mulR gn gd (1) 1 = ⟨ep, eq, true⟩ := hnm
        rw [hmm] at hRM
        unfold roV at hRM
        have HRM := Lib.hid hRM
        have hwa : IntKind.i64.wrap (2) = 2 := IntWalk.i64_in _ (by omega)
        have hwb : Int.tdiv (2) 2 = 1 := by decide
        have hwc : IntKind.i64.wrap (1) = 1 := IntWalk.i64_in _ (by omega)
        clear hRM hmm hnm
        go_wp2_with fail
        go_upto_region 15 with fail
        go_cut [14, 15] (fun s1 s2 wx => ∃ T : Nat, s1 = .pointer (some ⟨T, 0, none⟩) ∧ s2 = .bool true ∧ Two wx T ep eq ∧ wr.heap.size ≤ T ∧ Below wr.heap.size wr wx)
        case first =>
          clear HNX HXL HP HA HC' HBZ HTG HBR HC HL3 HE3 HSP HB3 HML HM u2 u3
          have Z0G0 := Lib.hid G0
          have Z0G1 := Lib.hid G1
          have Z0u0 := Lib.hid u0
          have Z0u1 := Lib.hid u1
          go_region_held3 (fun w' => w'.cell? ⟨bG, 0, none⟩ = some (.int .i64 (gn)) ∧ w'.cell? ⟨bG, 1, none⟩ = some (.int .i64 (gd)) ∧ w'.cell? ⟨b, o + i * 6, none⟩ = some (.int .i64 (eu)) ∧ w'.cell? ⟨b, o + i * 6 + 1, none⟩ = some (.int .i64 (el)))
            (first | with_reducible exact ⟨G0, G1, u0, u1⟩ | (refine ⟨?_, ?_, ?_, ?_⟩ <;> (repeat (first | (with_reducible assumption) | (with_reducible refine cd ?_) | (with_reducible refine ca ?_ (by first | omega | (simp <;> omega)) _) | (with_reducible refine cs ?_ (by first | omega | (simp <;> omega)) _)))))
            (first | (go_at_call 21; (with_reducible refine (HRM.out _).mono ?_); rintro e wq2 ⟨rfl, bq2⟩; have BQ2 : Below wr.heap.size wr wq2 := Below.trans (by repeat (first | (with_reducible refine Below.drew ?_) | (with_reducible refine below_drewN ?_ _) | (with_reducible refine Below.alloc ?_ ?_ _) | (with_reducible refine Below.setCell ?_ ?_ _) | (with_reducible assumption) | (with_reducible exact Below.refl _ _) | omega | (simp <;> omega))) (bq2.mono (by first | omega | (simp <;> omega))); have hq2 := BQ2.size; have hr2 := bq2.size; (try simp at hr2); have G0 := (BQ2.cell (p := ⟨bG, 0, none⟩) hbG).trans Z0G0.out; have G1 := (BQ2.cell (p := ⟨bG, 1, none⟩) hbG).trans Z0G1.out; have u0 := (BQ2.cell (p := ⟨b, o + i * 6, none⟩) hbw).trans Z0u0.out; have u1 := (BQ2.cell (p := ⟨b, o + i * 6 + 1, none⟩) hbw).trans Z0u1.out; (try (have TB2_0 : Two wq2 (wr.heap.size) 0 0 := (by first | ((repeat (first | (with_reducible assumption) | (with_reducible exact Two.new _ _ _ _) | (with_reducible exact two_new1 _ _ _ _ _) | (with_reducible refine Two.put (x := 0) (y := 0) ?_ _ _) | (with_reducible refine Two.drew ?_) | ((with_reducible refine two_at _ _ _ ?_); (simp; done)) | (with_reducible refine Two.alloc ?_ _) | (with_reducible refine two_below bq1 ?_) | (with_reducible refine two_below bq2 ?_) | (with_reducible refine Two.set ?_ (by first | omega | (simp <;> omega)) _))); done) | fail); have TH2_0 := Lib.hid TB2_0; obtain ⟨tc2_0, td2_0, tf2_0, tg2_0, tl2_0⟩ := TB2_0; have TB2_0 := TH2_0.out)); (try (have TB2_1 : Two wq2 (wq1.heap.size) 0 0 := (by first | ((repeat (first | (with_reducible assumption) | (with_reducible exact Two.new _ _ _ _) | (with_reducible exact two_new1 _ _ _ _ _) | (with_reducible refine Two.put (x := 0) (y := 0) ?_ _ _) | (with_reducible refine Two.drew ?_) | ((with_reducible refine two_at _ _ _ ?_); (simp; done)) | (with_reducible refine Two.alloc ?_ _) | (with_reducible refine two_below bq1 ?_) | (with_reducible refine two_below bq2 ?_) | (with_reducible refine Two.set ?_ (by first | omega | (simp <;> omega)) _))); done) | fail); have TH2_1 := Lib.hid TB2_1; obtain ⟨tc2_1, td2_1, tf2_1, tg2_1, tl2_1⟩ := TB2_1; have TB2_1 := TH2_1.out)); skip) | (go_at_call 19; (with_reducible refine (HW.out _).mono ?_); rintro e wq1 ⟨rfl, bq1⟩; have BQ1 : Below wr.heap.size wr wq1 := Below.trans (by repeat (first | (with_reducible refine Below.drew ?_) | (with_reducible refine below_drewN ?_ _) | (with_reducible refine Below.alloc ?_ ?_ _) | (with_reducible refine Below.setCell ?_ ?_ _) | (with_reducible assumption) | (with_reducible exact Below.refl _ _) | omega | (simp <;> omega))) (bq1.mono (by first | omega | (simp <;> omega))); have hq1 := BQ1.size; have hr1 := bq1.size; (try simp at hr1); have G0 := (BQ1.cell (p := ⟨bG, 0, none⟩) hbG).trans Z0G0.out; have G1 := (BQ1.cell (p := ⟨bG, 1, none⟩) hbG).trans Z0G1.out; have u0 := (BQ1.cell (p := ⟨b, o + i * 6, none⟩) hbw).trans Z0u0.out; have u1 := (BQ1.cell (p := ⟨b, o + i * 6 + 1, none⟩) hbw).trans Z0u1.out; (try (have TB1_0 : Two wq1 (wr.heap.size) 0 0 := (by first | ((repeat (first | (with_reducible assumption) | (with_reducible exact Two.new _ _ _ _) | (with_reducible exact two_new1 _ _ _ _ _) | (with_reducible refine Two.put (x := 0) (y := 0) ?_ _ _) | (with_reducible refine Two.drew ?_) | ((with_reducible refine two_at _ _ _ ?_); (simp; done)) | (with_reducible refine Two.alloc ?_ _) | (with_reducible refine two_below bq1 ?_) | (with_reducible refine two_below bq2 ?_) | (with_reducible refine Two.set ?_ (by first | omega | (simp <;> omega)) _))); done) | fail); have TH1_0 := Lib.hid TB1_0; obtain ⟨tc1_0, td1_0, tf1_0, tg1_0, tl1_0⟩ := TB1_0; have TB1_0 := TH1_0.out)); skip))
          all_goals go_wp2_with fail
          all_goals go_meet
          all_goals (refine ⟨_, rfl, rfl, ?_, ?_, ?_⟩)
          all_goals first | ((repeat (first | (with_reducible refine Below.drew ?_) | (with_reducible refine below_drewN ?_ _) | (with_reducible refine Below.alloc ?_ ?_ _) | (with_reducible refine Below.setCell ?_ ?_ _) | (with_reducible assumption) | (with_reducible exact Below.refl _ _) | omega | (simp <;> omega))); done) | ((repeat (first | (with_reducible assumption) | (with_reducible exact Two.new _ _ _ _) | (with_reducible exact two_new1 _ _ _ _ _) | (with_reducible refine Two.put (x := 0) (y := 0) ?_ _ _) | (with_reducible refine Two.drew ?_) | ((with_reducible refine two_at _ _ _ ?_); (simp; done)) | (with_reducible refine Two.alloc ?_ _) | (with_reducible refine two_below bq1 ?_) | (with_reducible refine two_below bq2 ?_) | (with_reducible refine Two.set ?_ (by first | omega | (simp <;> omega)) _))); done) | (trace_state; fail)
        case rest =>
          obtain ⟨Twn, rfl, rfl, TwnB, hwn, bwn⟩ := hcut
          obtain ⟨wn, rfl⟩ : ∃ x : World, x = wc := ⟨_, rfl⟩
          have u2 := (bwn.cell (p := ⟨b, o + i * 6 + 2, none⟩) hbw).trans u2
          have u3 := (bwn.cell (p := ⟨b, o + i * 6 + 3, none⟩) hbw).trans u3
          have hbw : b < wn.heap.size := Nat.lt_of_lt_of_le hbw bwn.size
          have B6 := HBR.out.trans (bwn.mono HBR.out.size)
          obtain ⟨t0, t1, _, _, ht4⟩ := TwnB
          clear u0 u1 G0 G1 bwn HW HRM
          go_wp2_with fail
          go_upto_region 16 with fail
          have f2 : ∀ p : Later wn.heap.size wn, p.W.cell? ⟨b, o + i * 6 + 2, none⟩ = some (.int .i64 (ep)) := Later.cell u2 hbw
          have f3 : ∀ p : Later wn.heap.size wn, p.W.cell? ⟨b, o + i * 6 + 3, none⟩ = some (.int .i64 (eq)) := Later.cell u3 hbw
          have f4 : ∀ p : Later wn.heap.size wn, p.W.cell? ⟨Twn, 0, none⟩ = some (.int .i64 (ep)) := Later.cell t0 ht4
          have f5 : ∀ p : Later wn.heap.size wn, p.W.cell? ⟨Twn, 1, none⟩ = some (.int .i64 (eq)) := Later.cell t1 ht4
          refine Later.wp_region_later (wn.heap.size) (by kernel_rfl) (by kernel_rfl) ?_
          repeat (first | go_big_quiet_step ((fail)) | quiet_step ((fail)))
          refine wpQuiet_nil ?_
          rintro w7 ⟨q7, hq7⟩
          have b7 := q7.h
          rw [← hq7] at b7
          clear hq7 q7
          have B7 := B6.trans (b7.mono B6.size)
          clear f2 f3 f4 f5
          go_wp2
          go_roundw
          case rel => exact ⟨i + 1, by omega, by go_num, B7⟩
          case measure => simp [intOf]; omega
    · obtain rfl : i = m := by omega
      go_wp2
      go_ret
      exact ⟨rfl, HBZ.out.trans (hB.mono HBZ.out.size)⟩
end Go.Proofs.YtdejlinldocfjaaDoor.WFnSplitNormal
