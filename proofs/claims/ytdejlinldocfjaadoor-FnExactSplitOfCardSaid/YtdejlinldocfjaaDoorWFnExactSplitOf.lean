/-
  The walk of the law FnExactSplitOf.
-/
import Derived.Test.YtdejlinldocfjaaDoorSplitLaws
import Derived.Test.YtdejlinldocfjaaDoorRowsSplit
import Derived.Test.YtdejlinldocfjaaDoorDrawSpl
import Derived.Test.YtdejlinldocfjaaDoorSplI
import Derived.Test.YtdejlinldocfjaaDoorSplS
import Derived.Test.YtdejlinldocfjaaDoorSplD
import Derived.BigQuiet
import Derived.Deep.DeepCutAuto
import Derived.Deep.RegionHeld3
namespace Go.Proofs.YtdejlinldocfjaaDoor.WFnExactSplitOf
open Go.RowKit Go.Proofs.YtdejlinldocfjaaDoor.RatP Go.Proofs.YtdejlinldocfjaaDoor.ChoP Go.Proofs.YtdejlinldocfjaaDoor.Rat Go.Proofs.YtdejlinldocfjaaDoor.Spin Go.Proofs.YtdejlinldocfjaaDoor.Row Go.Proofs.YtdejlinldocfjaaDoor.Later Go.Proofs.YtdejlinldocfjaaDoor.SplitPlain Go.Proofs.YtdejlinldocfjaaDoor.SplitDef Go.Proofs.YtdejlinldocfjaaDoor.SplitP Go.Proofs.YtdejlinldocfjaaDoor.Fac Go.Proofs.YtdejlinldocfjaaDoor.FacI Go.Proofs.YtdejlinldocfjaaDoor.SplitLaws Go.Proofs.YtdejlinldocfjaaDoor.Two Go.Proofs.YtdejlinldocfjaaDoor.Rd Go.Proofs.YtdejlinldocfjaaDoor.DrawSpl Go.Proofs.YtdejlinldocfjaaDoor.SplS Go.Proofs.YtdejlinldocfjaaDoor.SplI Go.Proofs.YtdejlinldocfjaaDoor.SplD 
set_option linter.unusedVariables false
set_option linter.unusedSimpArgs false

set_option maxRecDepth 100000 in
set_option maxHeartbeats 8000000 in
theorem fnExactSplitOf (s l j s' l' j' : Int) (w : World) (hE : Errs w) (_ : (Lit.int .i64 s).wf = true) (_ : (Lit.int .i64 l).wf = true) (_ : (Lit.int .i64 j).wf = true) (_ : (Lit.int .i64 s').wf = true) (_ : (Lit.int .i64 l').wf = true) (_ : (Lit.int .i64 j').wf = true) :
    Calls Tryd.prog 3 #[.agg #[.int .i64 s, .int .i64 l, .int .i64 j], .agg #[.int .i64 s', .int .i64 l', .int .i64 j']] w (Yes w) := by
  have hlt : 1 < w.heap.size := by obtain ⟨_, _, _, h⟩ := hE; exact h
  obtain ⟨ok, xs, hlen, HI, HS⟩ : ∃ (ok : Bool) (xs : List Sp), xs.length ≤ 19 ∧ (∀ W (hB : Below w.heap.size w W), Calls Tryd.prog 11 #[.agg #[.int .i64 s, .int .i64 l, .int .i64 j], .agg #[.int .i64 s', .int .i64 l', .int .i64 j']] W (GivesSplits ok xs W)) ∧ (∀ W, Calls Tryd.prog 9 #[.agg #[.int .i64 s, .int .i64 l, .int .i64 j], .agg #[.int .i64 s', .int .i64 l', .int .i64 j']] W (GivesSplits ok xs W)) := by
    cases hs : splitOk s l j s' l' j'
    · exact ⟨false, [], by simp, fun W _ => iSplitOf_no s l j s' l' j' W hs, fun W => sSplitOf_no s l j s' l' j' W hs⟩
    · exact ⟨true, splitS s l j s' l' j', (splitOk_pair hs).pair.len_is.1, fun W hB => iSplitOf_yes s l j s' l' j' W hs (hE.below hB hlt), fun W => sSplitOf_yes s l j s' l' j' W hs⟩
  obtain ⟨n, hn⟩ : ∃ n, n = xs.length := ⟨_, rfl⟩
  have HEQ := Lib.hid (fun W u v => RowsSplit.eqSplitS xs u v W)
  rw [← hn] at hlen HEQ
  unfold GivesSplits at HI HS
  rw [← hn] at HI HS
  replace HI := Lib.hid HI
  replace HS := Lib.hid HS
  clear hE hn
  go_enter Tryd.func3, Tryd.ntmps3
  go_upto_region 1 with fail
  obtain ⟨wr, hwr⟩ : ∃ wr : World, wr = ((w.alloc (.cells #[.int .i64 s, .int .i64 l, .int .i64 j] 25)).alloc (.cells #[.int .i64 s', .int .i64 l', .int .i64 j'] 25)) := ⟨_, rfl⟩
  have LV : Lv6 w.heap.size (w.heap.size + 1) s l j s' l' j' wr := by rw [hwr]; exact lv6_at w s l j s' l' j' _ _
  have BR : Below w.heap.size w wr := by rw [hwr]; exact (by repeat (first | (with_reducible refine Below.drew ?_) | (with_reducible refine below_drewN ?_ _) | (with_reducible refine Below.alloc ?_ ?_ _) | (with_reducible refine Below.setCell ?_ ?_ _) | (with_reducible assumption) | (with_reducible exact Below.refl _ _) | omega | (simp <;> omega)))
  rw [← hwr]
  clear hwr
  have HLV := Lib.hid LV
  have HBR := Lib.hid BR
  clear LV BR
  go_cut [5, 6] (fun s1 s2 wx => ∃ v, v = s1 ∧ s2 = .bool ok ∧ wx.ownsRow wr.heap.size 42 6 v n (xs.flatMap encSp) ∧ Below wr.heap.size wr wx)
  case first =>
    have LV0 := HLV.out
    have hX0 : w.heap.size < wr.heap.size := LV0.2.2.2.2.2.2.1
    have hX1 : w.heap.size + 1 < wr.heap.size := LV0.2.2.2.2.2.2.2
    clear HI HEQ HBR hlt
    go_region_held3 (fun w' => w'.cell? ⟨w.heap.size, 0, none⟩ = some (.int .i64 s) ∧ w'.cell? ⟨w.heap.size, 1, none⟩ = some (.int .i64 l) ∧ w'.cell? ⟨w.heap.size, 2, none⟩ = some (.int .i64 j) ∧ w'.cell? ⟨w.heap.size + 1, 0, none⟩ = some (.int .i64 s') ∧ w'.cell? ⟨w.heap.size + 1, 1, none⟩ = some (.int .i64 l') ∧ w'.cell? ⟨w.heap.size + 1, 2, none⟩ = some (.int .i64 j') ∧ w.heap.size < w'.heap.size ∧ w.heap.size + 1 < w'.heap.size)
      (first | (refine (?_ : Lv6 w.heap.size (w.heap.size + 1) s l j s' l' j' _); (repeat (first | (with_reducible assumption) | (with_reducible refine Lv6.drew ?_) | (with_reducible refine Lv6.alloc ?_ _)))))
      (first | (go_at_call 10; (with_reducible refine (toLevel _ _ _ _).mono ?_); rintro e wq1 ⟨rfl, bq1⟩; have BQ1 : Below wr.heap.size wr wq1 := Below.trans (by repeat (first | (with_reducible refine Below.drew ?_) | (with_reducible refine below_drewN ?_ _) | (with_reducible refine Below.alloc ?_ ?_ _) | (with_reducible refine Below.setCell ?_ ?_ _) | (with_reducible assumption) | (with_reducible exact Below.refl _ _) | omega | (simp <;> omega))) (bq1.mono (by first | omega | (simp <;> omega))); have hq1 := BQ1.size; have LV1 := LV0.below BQ1 hX0 hX1; skip) | (go_at_call 9; (with_reducible refine (HS.out _).mono ?_); rintro e wq3 ⟨vq, rfl, OQ, bq3⟩; have BQ3 : Below wr.heap.size wr wq3 := Below.trans (by repeat (first | (with_reducible refine Below.drew ?_) | (with_reducible refine below_drewN ?_ _) | (with_reducible refine Below.alloc ?_ ?_ _) | (with_reducible refine Below.setCell ?_ ?_ _) | (with_reducible assumption) | (with_reducible exact Below.refl _ _) | omega | (simp <;> omega))) (bq3.mono (by first | omega | (simp <;> omega))); have OQ' := own_base OQ (base' := wr.heap.size) (by first | omega | (simp <;> omega)); have LV3 := LV0.below BQ3 hX0 hX1; skip))
    all_goals go_wp2_with fail
    all_goals go_meet
    all_goals first | exact ⟨_, rfl, rfl, OQ', BQ3⟩ | exact ⟨_, rfl, rfl, OQ', BQ3.drew⟩ | (trace_state; fail)
  case rest =>
    obtain ⟨v1, rfl, rfl, O1, b1⟩ := hcut
    obtain ⟨w1, rfl⟩ : ∃ x : World, x = wc := ⟨_, rfl⟩
    have HLV1 := Lib.hid (HLV.out.below b1 HLV.out.2.2.2.2.2.2.1 HLV.out.2.2.2.2.2.2.2)
    have HV1 := Lib.hid (fun g (h : v1.ownBlock = some g) => O1.lt g h)
    have HI1 := Lib.hid (fun W (hB : Below w1.heap.size w1 W) => HI.out W ((HBR.out.trans (b1.mono HBR.out.size)).trans (hB.mono (HBR.out.trans (b1.mono HBR.out.size)).size)))
    have B1 := b1
    clear b1
    have HO1 := Lib.hid O1
    have HBB1 := Lib.hid B1
    clear B1 O1
    go_upto_region 2 with fail
    go_cut [7, 8] (fun s1 s2 wx => ∃ v, v = s1 ∧ s2 = .bool ok ∧ wx.ownsRow w1.heap.size 42 6 v n (xs.flatMap encSp) ∧ Below w1.heap.size w1 wx)
    case first =>
      have LV0 := HLV1.out
      have hX0 : w.heap.size < w1.heap.size := LV0.2.2.2.2.2.2.1
      have hX1 : w.heap.size + 1 < w1.heap.size := LV0.2.2.2.2.2.2.2
      clear HI HEQ HBR hlt HS HV1 HO1 HBB1 HLV
      go_region_held3 (fun w' => w'.cell? ⟨w.heap.size, 0, none⟩ = some (.int .i64 s) ∧ w'.cell? ⟨w.heap.size, 1, none⟩ = some (.int .i64 l) ∧ w'.cell? ⟨w.heap.size, 2, none⟩ = some (.int .i64 j) ∧ w'.cell? ⟨w.heap.size + 1, 0, none⟩ = some (.int .i64 s') ∧ w'.cell? ⟨w.heap.size + 1, 1, none⟩ = some (.int .i64 l') ∧ w'.cell? ⟨w.heap.size + 1, 2, none⟩ = some (.int .i64 j') ∧ w.heap.size < w'.heap.size ∧ w.heap.size + 1 < w'.heap.size)
        (first | (refine (?_ : Lv6 w.heap.size (w.heap.size + 1) s l j s' l' j' _); (repeat (first | (with_reducible assumption) | (with_reducible refine Lv6.drew ?_) | (with_reducible refine Lv6.alloc ?_ _)))))
        (first | (go_at_call 10; (with_reducible refine (toLevel _ _ _ _).mono ?_); rintro e wq1 ⟨rfl, bq1⟩; have BQ1 : Below w1.heap.size w1 wq1 := Below.trans (by repeat (first | (with_reducible refine Below.drew ?_) | (with_reducible refine below_drewN ?_ _) | (with_reducible refine Below.alloc ?_ ?_ _) | (with_reducible refine Below.setCell ?_ ?_ _) | (with_reducible assumption) | (with_reducible exact Below.refl _ _) | omega | (simp <;> omega))) (bq1.mono (by first | omega | (simp <;> omega))); have hq1 := BQ1.size; have LV1 := LV0.below BQ1 hX0 hX1; skip) | (go_at_call 11; (with_reducible refine (HI1.out _ ?_).mono ?_); (· exact (by repeat (first | (with_reducible refine Below.drew ?_) | (with_reducible refine below_drewN ?_ _) | (with_reducible refine Below.alloc ?_ ?_ _) | (with_reducible refine Below.setCell ?_ ?_ _) | (with_reducible assumption) | (with_reducible exact Below.refl _ _) | omega | (simp <;> omega)))); rintro e wq3 ⟨vq, rfl, OQ, bq3⟩; have BQ3 : Below w1.heap.size w1 wq3 := Below.trans (by repeat (first | (with_reducible refine Below.drew ?_) | (with_reducible refine below_drewN ?_ _) | (with_reducible refine Below.alloc ?_ ?_ _) | (with_reducible refine Below.setCell ?_ ?_ _) | (with_reducible assumption) | (with_reducible exact Below.refl _ _) | omega | (simp <;> omega))) (bq3.mono (by first | omega | (simp <;> omega))); have OQ' := own_base OQ (base' := w1.heap.size) (by first | omega | (simp <;> omega)); have LV3 := LV0.below BQ3 hX0 hX1; skip))
      all_goals go_wp2_with fail
      all_goals go_meet
      all_goals first | exact ⟨_, rfl, rfl, OQ', BQ3⟩ | exact ⟨_, rfl, rfl, OQ', BQ3.drew⟩ | (trace_state; fail)
    case rest =>
      obtain ⟨v2, rfl, rfl, O2, b2⟩ := hcut
      obtain ⟨w2, rfl⟩ : ∃ x : World, x = wc := ⟨_, rfl⟩
      have B2 := HBB1.out.trans (b2.mono HBB1.out.size)
      have O1 := own_below HO1.out b2 (Nat.le_refl _)
      have HV2 := Lib.hid (fun g (h : v2.ownBlock = some g) => O2.lt g h)
      have hz1 := HBB1.out.size
      clear b2 HBB1 HO1 HI1 HLV1
      go_wp2_with fail
      (with_reducible refine (HEQ.out _ _ _ (Sees.of_own O2) (Sees.of_own O1)).mono ?_)
      rintro e w3 ⟨rfl, b3⟩
      have B3 := B2.trans (b3.mono B2.size)
      replace O1 := own_below O1 b3 (Nat.le_refl _)
      replace O2 := own_below O2 b3 (Nat.le_refl _)
      have hz3 := b3.size
      clear b3 B2
      go_wp2_with fail
      (with_reducible refine (RowsSplit.markSplitS _ _ _ _ _ _ O2 (by omega) (by omega) (by omega)).mono ?_)
      rintro e w4 ⟨rfl, Q4, G4⟩
      have B4 := below_only B3 G4 B3.size (fun g h => by have := (HV2.out g h).1; omega)
      replace O1 := own_apart O1 G4 (fun g h1 h2 => by have := (HV1.out g h1).2; have := (HV2.out g h2).1; omega)
      have hz4 := G4.size
      clear O2 G4 B3
      go_wp2_with fail
      (with_reducible refine (RowsSplit.heldSplitS _ _ _ _ (Sees.of_own Q4) (by omega) (by omega) (by omega)).mono ?_)
      rintro e w' ⟨rfl, rfl⟩
      go_upto_region 13 with fail
      have HLV4 := Lib.hid (HLV.out.below B4 HLV.out.2.2.2.2.2.2.1 HLV.out.2.2.2.2.2.2.2)
      have HI4 := Lib.hid (fun W (hB : Below w4.heap.size w4 W) => HI.out W ((HBR.out.trans (B4.mono HBR.out.size)).trans (hB.mono (HBR.out.trans (B4.mono HBR.out.size)).size)))
      have HB4 := Lib.hid B4
      have HO1 := Lib.hid O1
      have HQ4 := Lib.hid Q4
      clear B4 O1 Q4
      go_cut [11, 12] (fun s1 s2 wx => ∃ v, v = s1 ∧ s2 = .bool ok ∧ wx.ownsRow w4.heap.size 42 6 v n (xs.flatMap encSp) ∧ Below w4.heap.size w4 wx)
      case first =>
        have LV0 := HLV4.out
        have hX0 : w.heap.size < w4.heap.size := LV0.2.2.2.2.2.2.1
        have hX1 : w.heap.size + 1 < w4.heap.size := LV0.2.2.2.2.2.2.2
        clear HI HEQ HBR hlt HS HV1 HV2 HO1 HQ4 HB4 HLV hz1 hz4 hz3
        go_region_held3 (fun w' => w'.cell? ⟨w.heap.size, 0, none⟩ = some (.int .i64 s) ∧ w'.cell? ⟨w.heap.size, 1, none⟩ = some (.int .i64 l) ∧ w'.cell? ⟨w.heap.size, 2, none⟩ = some (.int .i64 j) ∧ w'.cell? ⟨w.heap.size + 1, 0, none⟩ = some (.int .i64 s') ∧ w'.cell? ⟨w.heap.size + 1, 1, none⟩ = some (.int .i64 l') ∧ w'.cell? ⟨w.heap.size + 1, 2, none⟩ = some (.int .i64 j') ∧ w.heap.size < w'.heap.size ∧ w.heap.size + 1 < w'.heap.size)
          (first | (refine (?_ : Lv6 w.heap.size (w.heap.size + 1) s l j s' l' j' _); (repeat (first | (with_reducible assumption) | (with_reducible refine Lv6.drew ?_) | (with_reducible refine Lv6.alloc ?_ _)))))
          (first | (go_at_call 10; (with_reducible refine (toLevel _ _ _ _).mono ?_); rintro e wq1 ⟨rfl, bq1⟩; have BQ1 : Below w4.heap.size w4 wq1 := Below.trans (by repeat (first | (with_reducible refine Below.drew ?_) | (with_reducible refine below_drewN ?_ _) | (with_reducible refine Below.alloc ?_ ?_ _) | (with_reducible refine Below.setCell ?_ ?_ _) | (with_reducible assumption) | (with_reducible exact Below.refl _ _) | omega | (simp <;> omega))) (bq1.mono (by first | omega | (simp <;> omega))); have hq1 := BQ1.size; have LV1 := LV0.below BQ1 hX0 hX1; skip) | (go_at_call 11; (with_reducible refine (HI4.out _ ?_).mono ?_); (· exact (by repeat (first | (with_reducible refine Below.drew ?_) | (with_reducible refine below_drewN ?_ _) | (with_reducible refine Below.alloc ?_ ?_ _) | (with_reducible refine Below.setCell ?_ ?_ _) | (with_reducible assumption) | (with_reducible exact Below.refl _ _) | omega | (simp <;> omega)))); rintro e wq3 ⟨vq, rfl, OQ, bq3⟩; have BQ3 : Below w4.heap.size w4 wq3 := Below.trans (by repeat (first | (with_reducible refine Below.drew ?_) | (with_reducible refine below_drewN ?_ _) | (with_reducible refine Below.alloc ?_ ?_ _) | (with_reducible refine Below.setCell ?_ ?_ _) | (with_reducible assumption) | (with_reducible exact Below.refl _ _) | omega | (simp <;> omega))) (bq3.mono (by first | omega | (simp <;> omega))); have OQ' := own_base OQ (base' := w4.heap.size) (by first | omega | (simp <;> omega)); have LV3 := LV0.below BQ3 hX0 hX1; skip))
        all_goals go_wp2_with fail
        all_goals go_meet
        all_goals first | exact ⟨_, rfl, rfl, OQ', BQ3⟩ | exact ⟨_, rfl, rfl, OQ', BQ3.drew⟩ | (trace_state; fail)
      case rest =>
        obtain ⟨v5, rfl, rfl, O5, b5⟩ := hcut
        obtain ⟨w5, rfl⟩ : ∃ x : World, x = wc := ⟨_, rfl⟩
        have B5 := HB4.out.trans (b5.mono HB4.out.size)
        have O1 := own_below HO1.out b5 (Nat.le_refl _)
        have Q4 := own_below HQ4.out b5 (Nat.le_refl _)
        clear b5 HB4 HO1 HQ4 HI4 HLV4 HLV HI HS HV1 HV2
        go_wp2_with fail
        (with_reducible refine (HEQ.out _ _ _ (Sees.of_own O5) (Sees.of_own O1)).mono ?_)
        rintro e w6 ⟨rfl, b6⟩
        have B6 := B5.trans (b6.mono B5.size)
        replace Q4 := own_below Q4 b6 (Nat.le_refl _)
        have hz6 := b6.size
        clear b6 B5
        go_wp2_with fail
        (with_reducible refine (RowsSplit.heldSplitS _ _ _ _ (Sees.of_own Q4) (by omega) (by omega) (by omega)).mono ?_)
        rintro e w' ⟨rfl, rfl⟩
        go_wp2
        go_ret
        exact ⟨rfl, HBR.out.trans (B6.mono HBR.out.size)⟩
end Go.Proofs.YtdejlinldocfjaaDoor.WFnExactSplitOf
