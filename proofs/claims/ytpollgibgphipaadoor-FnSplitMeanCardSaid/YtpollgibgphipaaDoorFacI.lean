/-
  Contracts of the program's FactorOf and of the functions that make a shift.
-/
import Derived.Test.YtpollgibgphipaaDoorFacP
import Derived.Test.YtpollgibgphipaaDoorRegM
import Derived.Deep.DeepCutAuto
import Derived.RegionTactic
namespace Go.Proofs.YtpollgibgphipaaDoor.FacI
open Go.RowKit Go.Proofs.YtpollgibgphipaaDoor.RatP Go.Proofs.YtpollgibgphipaaDoor.ChoP Go.Proofs.YtpollgibgphipaaDoor.Rat Go.Proofs.YtpollgibgphipaaDoor.SplitPlain Go.Proofs.YtpollgibgphipaaDoor.SplitP Go.Proofs.YtpollgibgphipaaDoor.SplitDef Go.Proofs.YtpollgibgphipaaDoor.Fac Go.Proofs.YtpollgibgphipaaDoor.Spin Go.Proofs.YtpollgibgphipaaDoor.Row Go.Proofs.YtpollgibgphipaaDoor.Later Go.Proofs.YtpollgibgphipaaDoor.Two Go.Proofs.YtpollgibgphipaaDoor.RegM
set_option linter.unusedVariables false
set_option linter.unusedSimpArgs false

/-- the second error variable holds an error -/
def Errs (W : World) : Prop := ∃ (t : TypeId) (v : Value), W.cell? ⟨1, 0, none⟩ = some (.iface t v) ∧ 1 < W.heap.size
theorem Errs.below {W W' : World} {B : Nat} (h : Errs W) (hb : Below B W W') (hB : 1 < B) : Errs W' := by
  obtain ⟨t, v, h1, h2⟩ := h
  exact ⟨t, v, (hb.cell (p := ⟨1, 0, none⟩) hB).trans h1, Nat.lt_of_lt_of_le h2 hb.size⟩

theorem iHalf (m : Int) (hm : -6 ≤ m ∧ m ≤ 6) (w : World) : Calls Tryd.prog 48 #[.int .i64 m] w (Gives (.agg #[.int .i64 (mkR m 2).n, .int .i64 (mkR m 2).d]) w) := by
  have hR := fun W => iRatOf m 2 W (by omega) (by omega)
  unfold roV at hR
  generalize mkR m 2 = h at *
  obtain ⟨hn, hd, hk⟩ := h
  have HR := Lib.hid hR
  clear hR hm
  go_enter Tryd.func48, Tryd.ntmps48
  go_wp2_with fail
  (with_reducible refine (HR.out _).mono ?_)
  rintro e w1 ⟨rfl, b1⟩
  have hz1 := b1.size
  obtain ⟨hc1, hf1⟩ := bcell b1
  have B1 : Below w.heap.size w w1 := Below.trans (by repeat (first | (with_reducible refine Below.drew ?_) | (with_reducible refine below_drewN ?_ _) | (with_reducible refine Below.alloc ?_ ?_ _) | (with_reducible refine Below.setCell ?_ ?_ _) | (with_reducible assumption) | (with_reducible exact Below.refl _ _) | omega | (simp <;> omega))) (b1.mono (by first | omega | (simp <;> omega)))
  (try simp at hz1)
  have hy1 : w.heap.size < w1.heap.size := by omega
  clear b1
  have kc1_0_0 : w1.cell? ⟨w.heap.size, 0, none⟩ = some (.int .i64 0) := (hc1 (w.heap.size) 0 (by first | omega | (simp <;> omega))).trans (by first | (simp; done) | (simp [*]; done) | (simp [*, World.cell?_alloc_at, World.cell?_alloc_past, World.cell?_alloc_lt, lt2, lt3, lt4]; done))
  have kc1_1_0 : w1.cell? ⟨w.heap.size, 1, none⟩ = some (.int .i64 0) := (hc1 (w.heap.size) 1 (by first | omega | (simp <;> omega))).trans (by first | (simp; done) | (simp [*]; done) | (simp [*, World.cell?_alloc_at, World.cell?_alloc_past, World.cell?_alloc_lt, lt2, lt3, lt4]; done))
  have kf1_0_0 : w1.frozen? ⟨w.heap.size, 0, none⟩ = false := (hf1 (w.heap.size) 0 (by first | omega | (simp <;> omega))).trans (by first | (simp; done) | (simp [*]; done) | (simp [*, World.frozen?_alloc_at, World.frozen?_alloc_past, lt2, lt3, lt4]; done))
  have kf1_1_0 : w1.frozen? ⟨w.heap.size, 1, none⟩ = false := (hf1 (w.heap.size) 1 (by first | omega | (simp <;> omega))).trans (by first | (simp; done) | (simp [*]; done) | (simp [*, World.frozen?_alloc_at, World.frozen?_alloc_past, lt2, lt3, lt4]; done))
  go_wp2
  refine bodyPost_ret (v := .agg #[.int .i64 hn, .int .i64 hd]) (by simp [results, Tryd.results48, go_sem, *, lt2, lt3, lt4, lt5, lt6]) rfl ⟨rfl, (by repeat (first | (with_reducible refine Below.drew ?_) | (with_reducible refine below_drewN ?_ _) | (with_reducible refine Below.alloc ?_ ?_ _) | (with_reducible refine Below.setCell ?_ ?_ _) | (with_reducible assumption) | (with_reducible exact Below.refl _ _) | omega | (simp <;> omega)))⟩
set_option maxRecDepth 100000 in
set_option maxHeartbeats 8000000 in
theorem iShift (g h : Ro) (u t : Int) (A B S : Ro) (hu : -6 ≤ u ∧ u ≤ 6) (ht : -6 ≤ t ∧ t ≤ 6) (hA : mulQ g (mkR u 2) = A) (hB : mulQ h (mkR t 2) = B) (hS : subQ A B = S) (oA : A.ok = true) (oB : B.ok = true) (oS : S.ok = true) (bB : -1000000000 ≤ B.n ∧ B.n ≤ 1000000000) (w : World) :
    Calls Tryd.prog 30 #[.agg #[.int .i64 g.n, .int .i64 g.d], .int .i64 u, .agg #[.int .i64 h.n, .int .i64 h.d], .int .i64 t] w (Gives (.tuple #[.agg #[.int .i64 S.n, .int .i64 S.d], .bool true]) w) := by
  have hH1 := fun W => iHalf u hu W
  have hH2 := fun W => iHalf t ht W
  have hM1 := fun W => iRatMul g.n g.d (mkR u 2).n (mkR u 2).d W
  have hM2 := fun W => iRatMul h.n h.d (mkR t 2).n (mkR t 2).d W
  have hSB := fun W => iRatSub A.n A.d B.n B.d W (by omega) (by omega)
  have e1 : mulR g.n g.d (mkR u 2).n (mkR u 2).d = A := hA
  have e2 : mulR h.n h.d (mkR t 2).n (mkR t 2).d = B := hB
  have e3 : subR A.n A.d B.n B.d = S := hS
  rw [e1] at hM1
  rw [e2] at hM2
  rw [e3] at hSB
  unfold roV at hM1 hM2 hSB
  rw [oA] at hM1
  rw [oB] at hM2
  rw [oS] at hSB
  generalize mkR u 2 = p at *
  generalize mkR t 2 = q at *
  obtain ⟨pn, pd, pk⟩ := p
  obtain ⟨qn, qd, qk⟩ := q
  obtain ⟨gn', gd', gk⟩ := g
  obtain ⟨hn, hd, hk⟩ := h
  obtain ⟨an, ad, ak⟩ := A
  obtain ⟨bn, bd, bk⟩ := B
  obtain ⟨sn, sd, sk⟩ := S
  simp only at hH1 hH2 hM1 hM2 hSB
  have HH1 := Lib.hid hH1
  have HH2 := Lib.hid hH2
  have HM1 := Lib.hid hM1
  have HM2 := Lib.hid hM2
  have HS := Lib.hid hSB
  clear hH1 hH2 hM1 hM2 hSB e1 e2 e3 hA hB hS oA oB oS bB hu ht
  go_enter Tryd.func30, Tryd.ntmps30
  go_upto_region 1 with fail
  obtain ⟨wr, hwr⟩ : ∃ wr : World, wr = ((w.alloc (.cells #[.int .i64 gn', .int .i64 gd'] 34)).alloc (.cells #[.int .i64 hn, .int .i64 hd] 34)).alloc (.cells #[.int .i64 0, .int .i64 0] 34) := ⟨_, rfl⟩
  have B0 : Below w.heap.size w wr := by rw [hwr]; exact (by repeat (first | (with_reducible refine Below.drew ?_) | (with_reducible refine below_drewN ?_ _) | (with_reducible refine Below.alloc ?_ ?_ _) | (with_reducible refine Below.setCell ?_ ?_ _) | (with_reducible assumption) | (with_reducible exact Below.refl _ _) | omega | (simp <;> omega)))
  have g0 : wr.cell? ⟨w.heap.size, 0, none⟩ = some (.int .i64 gn') := by rw [hwr]; exact ca (ca (Two.new w gn' gd' _).1 (by simp) _) (by simp; omega) _
  have g1 : wr.cell? ⟨w.heap.size, 1, none⟩ = some (.int .i64 gd') := by rw [hwr]; exact ca (ca (Two.new w gn' gd' _).2.1 (by simp) _) (by simp; omega) _
  have TH0 : Two wr (w.heap.size + 1) hn hd := by rw [hwr]; exact (two_new1 _ _ _ _ _).alloc _
  have TR0 : Two wr (w.heap.size + 1 + 1) 0 0 := by
    rw [hwr]
    have h := Two.new ((w.alloc (.cells #[.int .i64 gn', .int .i64 gd'] 34)).alloc (.cells #[.int .i64 hn, .int .i64 hd] 34)) 0 0 34
    simpa using h
  have hw0 : w.heap.size < wr.heap.size := by rw [hwr]; simp; omega
  rw [← hwr]
  clear hwr
  have HB0 := Lib.hid B0
  have HTH0 := Lib.hid TH0
  have HTR0 := Lib.hid TR0
  clear B0 TH0 TR0
  go_cut [10, 11] (fun s10 s11 wx => ∃ T : Nat, s10 = .pointer (some ⟨T, 0, none⟩) ∧ s11 = .bool true ∧ Two wx T an ad ∧ wr.heap.size ≤ T ∧ Below wr.heap.size wr wx)
  case first =>
    clear HH2 HM2 HS HB0 HTH0 HTR0
    have Z0g0 := Lib.hid g0
    have Z0g1 := Lib.hid g1
    go_region_held3 (fun w' => w'.cell? ⟨w.heap.size, 0, none⟩ = some (.int .i64 (gn')) ∧ w'.cell? ⟨w.heap.size, 1, none⟩ = some (.int .i64 (gd')))
      (first | with_reducible exact ⟨g0, g1⟩ | (refine ⟨?_, ?_⟩ <;> (repeat (first | (with_reducible assumption) | (with_reducible refine cd ?_) | (with_reducible refine ca ?_ (by first | omega | (simp <;> omega)) _) | (with_reducible refine cs ?_ (by first | omega | (simp <;> omega)) _)))))
      (first | ((with_reducible refine (HH1.out _).mono ?_); rintro e wq1 ⟨rfl, bq1⟩; have BQ1 : Below wr.heap.size wr wq1 := Below.trans (by repeat (first | (with_reducible refine Below.drew ?_) | (with_reducible refine below_drewN ?_ _) | (with_reducible refine Below.alloc ?_ ?_ _) | (with_reducible refine Below.setCell ?_ ?_ _) | (with_reducible assumption) | (with_reducible exact Below.refl _ _) | omega | (simp <;> omega))) (bq1.mono (by first | omega | (simp <;> omega))); have hq1 := BQ1.size; have hr1 := bq1.size; (try simp at hr1); have g0 := (BQ1.cell (p := ⟨w.heap.size, 0, none⟩) hw0).trans Z0g0.out; have g1 := (BQ1.cell (p := ⟨w.heap.size, 1, none⟩) hw0).trans Z0g1.out; (try (have TB1_0 : Two wq1 (wr.heap.size) 0 0 := (by first | ((repeat (first | (with_reducible assumption) | (with_reducible exact Two.new _ _ _ _) | (with_reducible exact two_new1 _ _ _ _ _) | (with_reducible refine Two.put (x := 0) (y := 0) ?_ _ _) | (with_reducible refine Two.drew ?_) | (with_reducible refine Two.alloc ?_ _) | (with_reducible refine two_below bq1 ?_) | (with_reducible refine two_below bq2 ?_) | (with_reducible refine Two.set ?_ (by first | omega | (simp <;> omega)) _))); done) | fail); have TH1_0 := Lib.hid TB1_0; obtain ⟨tc1_0, td1_0, tf1_0, tg1_0, tl1_0⟩ := TB1_0)); (try (have TB1_1 : Two wq1 (wr.heap.size + 1) 0 0 := (by first | ((repeat (first | (with_reducible assumption) | (with_reducible exact Two.new _ _ _ _) | (with_reducible exact two_new1 _ _ _ _ _) | (with_reducible refine Two.put (x := 0) (y := 0) ?_ _ _) | (with_reducible refine Two.drew ?_) | (with_reducible refine Two.alloc ?_ _) | (with_reducible refine two_below bq1 ?_) | (with_reducible refine two_below bq2 ?_) | (with_reducible refine Two.set ?_ (by first | omega | (simp <;> omega)) _))); done) | fail); have TH1_1 := Lib.hid TB1_1; obtain ⟨tc1_1, td1_1, tf1_1, tg1_1, tl1_1⟩ := TB1_1)); skip)
             | ((with_reducible refine (HM1.out _).mono ?_); rintro e wq2 ⟨rfl, bq2⟩; have BQ2 : Below wr.heap.size wr wq2 := Below.trans (by repeat (first | (with_reducible refine Below.drew ?_) | (with_reducible refine below_drewN ?_ _) | (with_reducible refine Below.alloc ?_ ?_ _) | (with_reducible refine Below.setCell ?_ ?_ _) | (with_reducible assumption) | (with_reducible exact Below.refl _ _) | omega | (simp <;> omega))) (bq2.mono (by first | omega | (simp <;> omega))); have hq2 := BQ2.size; have hr2 := bq2.size; (try simp at hr2); have g0 := (BQ2.cell (p := ⟨w.heap.size, 0, none⟩) hw0).trans Z0g0.out; have g1 := (BQ2.cell (p := ⟨w.heap.size, 1, none⟩) hw0).trans Z0g1.out; (try (have TB2_0 : Two wq2 (wr.heap.size) 0 0 := (by first | ((repeat (first | (with_reducible assumption) | (with_reducible exact Two.new _ _ _ _) | (with_reducible exact two_new1 _ _ _ _ _) | (with_reducible refine Two.put (x := 0) (y := 0) ?_ _ _) | (with_reducible refine Two.drew ?_) | (with_reducible refine Two.alloc ?_ _) | (with_reducible refine two_below bq1 ?_) | (with_reducible refine two_below bq2 ?_) | (with_reducible refine Two.set ?_ (by first | omega | (simp <;> omega)) _))); done) | fail); have TH2_0 := Lib.hid TB2_0; obtain ⟨tc2_0, td2_0, tf2_0, tg2_0, tl2_0⟩ := TB2_0)); (try (have TB2_1 : Two wq2 (wr.heap.size + 1) 0 0 := (by first | ((repeat (first | (with_reducible assumption) | (with_reducible exact Two.new _ _ _ _) | (with_reducible exact two_new1 _ _ _ _ _) | (with_reducible refine Two.put (x := 0) (y := 0) ?_ _ _) | (with_reducible refine Two.drew ?_) | (with_reducible refine Two.alloc ?_ _) | (with_reducible refine two_below bq1 ?_) | (with_reducible refine two_below bq2 ?_) | (with_reducible refine Two.set ?_ (by first | omega | (simp <;> omega)) _))); done) | fail); have TH2_1 := Lib.hid TB2_1; obtain ⟨tc2_1, td2_1, tf2_1, tg2_1, tl2_1⟩ := TB2_1)); (try (have TB2_2 : Two wq2 (wq1.heap.size) 0 0 := (by first | ((repeat (first | (with_reducible assumption) | (with_reducible exact Two.new _ _ _ _) | (with_reducible exact two_new1 _ _ _ _ _) | (with_reducible refine Two.put (x := 0) (y := 0) ?_ _ _) | (with_reducible refine Two.drew ?_) | (with_reducible refine Two.alloc ?_ _) | (with_reducible refine two_below bq1 ?_) | (with_reducible refine two_below bq2 ?_) | (with_reducible refine Two.set ?_ (by first | omega | (simp <;> omega)) _))); done) | fail); have TH2_2 := Lib.hid TB2_2; obtain ⟨tc2_2, td2_2, tf2_2, tg2_2, tl2_2⟩ := TB2_2)); (try (have TB2_3 : Two wq2 (wq1.heap.size + 1) 0 0 := (by first | ((repeat (first | (with_reducible assumption) | (with_reducible exact Two.new _ _ _ _) | (with_reducible exact two_new1 _ _ _ _ _) | (with_reducible refine Two.put (x := 0) (y := 0) ?_ _ _) | (with_reducible refine Two.drew ?_) | (with_reducible refine Two.alloc ?_ _) | (with_reducible refine two_below bq1 ?_) | (with_reducible refine two_below bq2 ?_) | (with_reducible refine Two.set ?_ (by first | omega | (simp <;> omega)) _))); done) | fail); have TH2_3 := Lib.hid TB2_3; obtain ⟨tc2_3, td2_3, tf2_3, tg2_3, tl2_3⟩ := TB2_3)); skip))
    all_goals go_wp2_with fail
    all_goals go_meet
    all_goals (refine ⟨_, rfl, rfl, ?_, ?_, ?_⟩)
    all_goals first | ((repeat (first | (with_reducible refine Below.drew ?_) | (with_reducible refine below_drewN ?_ _) | (with_reducible refine Below.alloc ?_ ?_ _) | (with_reducible refine Below.setCell ?_ ?_ _) | (with_reducible assumption) | (with_reducible exact Below.refl _ _) | omega | (simp <;> omega))); done) | ((repeat (first | (with_reducible assumption) | (with_reducible exact Two.new _ _ _ _) | (with_reducible exact two_new1 _ _ _ _ _) | (with_reducible refine Two.put (x := 0) (y := 0) ?_ _ _) | (with_reducible refine Two.drew ?_) | (with_reducible refine Two.alloc ?_ _) | (with_reducible refine two_below bq1 ?_) | (with_reducible refine two_below bq2 ?_) | (with_reducible refine Two.set ?_ (by first | omega | (simp <;> omega)) _))); done) | (trace_state; fail)
  case rest =>
    obtain ⟨T1, rfl, rfl, TA1, hT1, b1⟩ := hcut
    obtain ⟨w1, rfl⟩ : ∃ x : World, x = wc := ⟨_, rfl⟩
    have TH1 := HTH0.out.below b1 HTH0.out.2.2.2.2
    have TR1 := Lib.hid (HTR0.out.below b1 HTR0.out.2.2.2.2)
    have B1 := Lib.hid (HB0.out.trans (b1.mono HB0.out.size))
    have hlw : w.heap.size < wr.heap.size := hw0
    have hwT : w.heap.size + 1 + 1 < T1 := Nat.lt_of_lt_of_le HTR0.out.2.2.2.2 hT1
    have HTA1 := Lib.hid TA1
    have HTH1 := Lib.hid TH1
    obtain ⟨h0, h1, _, _, hw2⟩ := TH1
    clear b1 g0 g1 HH1 HM1 HB0 HTH0 HTR0 TA1 hT1 hw0 hlw
    go_upto_region 2 with fail
    go_cut [12, 13] (fun s12 s13 wx => ∃ T : Nat, s12 = .pointer (some ⟨T, 0, none⟩) ∧ s13 = .bool true ∧ Two wx T bn bd ∧ w1.heap.size ≤ T ∧ Below w1.heap.size w1 wx)
    case first =>
      clear HS B1 HTA1 HTH1 TR1 hwT
      have Z0h0 := Lib.hid h0
      have Z0h1 := Lib.hid h1
      go_region_held3 (fun w' => w'.cell? ⟨w.heap.size + 1, 0, none⟩ = some (.int .i64 (hn)) ∧ w'.cell? ⟨w.heap.size + 1, 1, none⟩ = some (.int .i64 (hd)))
        (first | with_reducible exact ⟨h0, h1⟩ | (refine ⟨?_, ?_⟩ <;> (repeat (first | (with_reducible assumption) | (with_reducible refine cd ?_) | (with_reducible refine ca ?_ (by first | omega | (simp <;> omega)) _) | (with_reducible refine cs ?_ (by first | omega | (simp <;> omega)) _)))))
        (first | ((with_reducible refine (HH2.out _).mono ?_); rintro e wq1 ⟨rfl, bq1⟩; have BQ1 : Below w1.heap.size w1 wq1 := Below.trans (by repeat (first | (with_reducible refine Below.drew ?_) | (with_reducible refine below_drewN ?_ _) | (with_reducible refine Below.alloc ?_ ?_ _) | (with_reducible refine Below.setCell ?_ ?_ _) | (with_reducible assumption) | (with_reducible exact Below.refl _ _) | omega | (simp <;> omega))) (bq1.mono (by first | omega | (simp <;> omega))); have hq1 := BQ1.size; have hr1 := bq1.size; (try simp at hr1); have h0 := (BQ1.cell (p := ⟨w.heap.size + 1, 0, none⟩) hw2).trans Z0h0.out; have h1 := (BQ1.cell (p := ⟨w.heap.size + 1, 1, none⟩) hw2).trans Z0h1.out; (try (have TB1_0 : Two wq1 (w1.heap.size) 0 0 := (by first | ((repeat (first | (with_reducible assumption) | (with_reducible exact Two.new _ _ _ _) | (with_reducible exact two_new1 _ _ _ _ _) | (with_reducible refine Two.put (x := 0) (y := 0) ?_ _ _) | (with_reducible refine Two.drew ?_) | (with_reducible refine Two.alloc ?_ _) | (with_reducible refine two_below bq1 ?_) | (with_reducible refine two_below bq2 ?_) | (with_reducible refine Two.set ?_ (by first | omega | (simp <;> omega)) _))); done) | fail); have TH1_0 := Lib.hid TB1_0; obtain ⟨tc1_0, td1_0, tf1_0, tg1_0, tl1_0⟩ := TB1_0)); (try (have TB1_1 : Two wq1 (w1.heap.size + 1) 0 0 := (by first | ((repeat (first | (with_reducible assumption) | (with_reducible exact Two.new _ _ _ _) | (with_reducible exact two_new1 _ _ _ _ _) | (with_reducible refine Two.put (x := 0) (y := 0) ?_ _ _) | (with_reducible refine Two.drew ?_) | (with_reducible refine Two.alloc ?_ _) | (with_reducible refine two_below bq1 ?_) | (with_reducible refine two_below bq2 ?_) | (with_reducible refine Two.set ?_ (by first | omega | (simp <;> omega)) _))); done) | fail); have TH1_1 := Lib.hid TB1_1; obtain ⟨tc1_1, td1_1, tf1_1, tg1_1, tl1_1⟩ := TB1_1)); skip)
               | ((with_reducible refine (HM2.out _).mono ?_); rintro e wq2 ⟨rfl, bq2⟩; have BQ2 : Below w1.heap.size w1 wq2 := Below.trans (by repeat (first | (with_reducible refine Below.drew ?_) | (with_reducible refine below_drewN ?_ _) | (with_reducible refine Below.alloc ?_ ?_ _) | (with_reducible refine Below.setCell ?_ ?_ _) | (with_reducible assumption) | (with_reducible exact Below.refl _ _) | omega | (simp <;> omega))) (bq2.mono (by first | omega | (simp <;> omega))); have hq2 := BQ2.size; have hr2 := bq2.size; (try simp at hr2); have h0 := (BQ2.cell (p := ⟨w.heap.size + 1, 0, none⟩) hw2).trans Z0h0.out; have h1 := (BQ2.cell (p := ⟨w.heap.size + 1, 1, none⟩) hw2).trans Z0h1.out; (try (have TB2_0 : Two wq2 (w1.heap.size) 0 0 := (by first | ((repeat (first | (with_reducible assumption) | (with_reducible exact Two.new _ _ _ _) | (with_reducible exact two_new1 _ _ _ _ _) | (with_reducible refine Two.put (x := 0) (y := 0) ?_ _ _) | (with_reducible refine Two.drew ?_) | (with_reducible refine Two.alloc ?_ _) | (with_reducible refine two_below bq1 ?_) | (with_reducible refine two_below bq2 ?_) | (with_reducible refine Two.set ?_ (by first | omega | (simp <;> omega)) _))); done) | fail); have TH2_0 := Lib.hid TB2_0; obtain ⟨tc2_0, td2_0, tf2_0, tg2_0, tl2_0⟩ := TB2_0)); (try (have TB2_1 : Two wq2 (w1.heap.size + 1) 0 0 := (by first | ((repeat (first | (with_reducible assumption) | (with_reducible exact Two.new _ _ _ _) | (with_reducible exact two_new1 _ _ _ _ _) | (with_reducible refine Two.put (x := 0) (y := 0) ?_ _ _) | (with_reducible refine Two.drew ?_) | (with_reducible refine Two.alloc ?_ _) | (with_reducible refine two_below bq1 ?_) | (with_reducible refine two_below bq2 ?_) | (with_reducible refine Two.set ?_ (by first | omega | (simp <;> omega)) _))); done) | fail); have TH2_1 := Lib.hid TB2_1; obtain ⟨tc2_1, td2_1, tf2_1, tg2_1, tl2_1⟩ := TB2_1)); (try (have TB2_2 : Two wq2 (wq1.heap.size) 0 0 := (by first | ((repeat (first | (with_reducible assumption) | (with_reducible exact Two.new _ _ _ _) | (with_reducible exact two_new1 _ _ _ _ _) | (with_reducible refine Two.put (x := 0) (y := 0) ?_ _ _) | (with_reducible refine Two.drew ?_) | (with_reducible refine Two.alloc ?_ _) | (with_reducible refine two_below bq1 ?_) | (with_reducible refine two_below bq2 ?_) | (with_reducible refine Two.set ?_ (by first | omega | (simp <;> omega)) _))); done) | fail); have TH2_2 := Lib.hid TB2_2; obtain ⟨tc2_2, td2_2, tf2_2, tg2_2, tl2_2⟩ := TB2_2)); (try (have TB2_3 : Two wq2 (wq1.heap.size + 1) 0 0 := (by first | ((repeat (first | (with_reducible assumption) | (with_reducible exact Two.new _ _ _ _) | (with_reducible exact two_new1 _ _ _ _ _) | (with_reducible refine Two.put (x := 0) (y := 0) ?_ _ _) | (with_reducible refine Two.drew ?_) | (with_reducible refine Two.alloc ?_ _) | (with_reducible refine two_below bq1 ?_) | (with_reducible refine two_below bq2 ?_) | (with_reducible refine Two.set ?_ (by first | omega | (simp <;> omega)) _))); done) | fail); have TH2_3 := Lib.hid TB2_3; obtain ⟨tc2_3, td2_3, tf2_3, tg2_3, tl2_3⟩ := TB2_3)); skip))
      all_goals go_wp2_with fail
      all_goals go_meet
      all_goals (refine ⟨_, rfl, rfl, ?_, ?_, ?_⟩)
      all_goals first | ((repeat (first | (with_reducible refine Below.drew ?_) | (with_reducible refine below_drewN ?_ _) | (with_reducible refine Below.alloc ?_ ?_ _) | (with_reducible refine Below.setCell ?_ ?_ _) | (with_reducible assumption) | (with_reducible exact Below.refl _ _) | omega | (simp <;> omega))); done) | ((repeat (first | (with_reducible assumption) | (with_reducible exact Two.new _ _ _ _) | (with_reducible exact two_new1 _ _ _ _ _) | (with_reducible refine Two.put (x := 0) (y := 0) ?_ _ _) | (with_reducible refine Two.drew ?_) | (with_reducible refine Two.alloc ?_ _) | (with_reducible refine two_below bq1 ?_) | (with_reducible refine two_below bq2 ?_) | (with_reducible refine Two.set ?_ (by first | omega | (simp <;> omega)) _))); done) | (trace_state; fail)
    case rest =>
      obtain ⟨T2, rfl, rfl, TB2, hT2, b2⟩ := hcut
      obtain ⟨w2, rfl⟩ : ∃ x : World, x = wc := ⟨_, rfl⟩
      have TA2 := HTA1.out.below b2 HTA1.out.2.2.2.2
      have TR2 := TR1.out.below b2 TR1.out.2.2.2.2
      have B2 := B1.out.trans (b2.mono B1.out.size)
      obtain ⟨a0, a1, _, _, _⟩ := TA2
      obtain ⟨b0, b1, _, _, _⟩ := TB2
      have HTR2 := Lib.hid TR2
      clear b2 h0 h1 hw2 HH2 HM2 TR1 B1 HTA1 HTH1 hT2 hwT TR2
      go_wp2_with fail
      (with_reducible refine (HS.out _).mono ?_)
      rintro e w3 ⟨rfl, b3⟩
      have B3 := B2.trans (b3.mono B2.size)
      have TR3 := HTR2.out.below b3 HTR2.out.2.2.2.2
      obtain ⟨r0, r1, r2, r3, r4⟩ := TR3
      clear b3 a0 a1 b0 b1 B2 HTR2
      go_wp2
      refine bodyPost_ret (v := .tuple #[.agg #[.int .i64 sn, .int .i64 sd], .bool true]) (by simp [results, Tryd.results30, go_sem, *, lt2, lt3, lt4, lt5, lt6]) rfl ⟨rfl, (by repeat (first | (with_reducible refine Below.drew ?_) | (with_reducible refine below_drewN ?_ _) | (with_reducible refine Below.alloc ?_ ?_ _) | (with_reducible refine Below.setCell ?_ ?_ _) | (with_reducible assumption) | (with_reducible exact Below.refl _ _) | omega | (simp <;> omega)))⟩
theorem iSquare (a b c n : Int) (w : World) (h : -100 ≤ n ∧ n ≤ 100) : Calls Tryd.prog 60 #[.agg #[.int .i64 a, .int .i64 b, .int .i64 c], .int .i64 n] w (Gives (.int .i64 (n * (n + 2))) w) := by
  have hb := mul_bds (a := n) (b := n + 2) (A := 100) (B := 102) (by omega) (by omega) (by omega) (by omega) (by omega)
  obtain ⟨h1, h2⟩ := h
  obtain ⟨b1, b2⟩ := hb
  go_enter Tryd.func60, Tryd.ntmps60
  go_wp2
  go_ret
  exact ⟨rfl, (by repeat (first | (with_reducible refine Below.drew ?_) | (with_reducible refine below_drewN ?_ _) | (with_reducible refine Below.alloc ?_ ?_ _) | (with_reducible refine Below.setCell ?_ ?_ _) | (with_reducible assumption) | (with_reducible exact Below.refl _ _) | omega | (simp <;> omega)))⟩
theorem ign_is {s l j : Int} (h : ¬ j = 0) : 2 * (j * (j + 2)) + j * (j + 2) + s * (s + 2) - 2 * l * (2 * l + 2) = gn s l j ∧ 2 * (j * (j + 2)) = gd j := by
  unfold gn gd
  rw [if_neg h, if_neg h]
  exact ⟨by omega, rfl⟩
set_option maxRecDepth 100000 in
set_option maxHeartbeats 8000000 in
theorem iFactor0 (s l : Int) (L : Lv s l 0) (w : World) (t : TypeId) (v : Value) (hE : w.cell? ⟨1, 0, none⟩ = some (.iface t v)) (hlt : 1 < w.heap.size) :
    Calls Tryd.prog 37 #[.agg #[.int .i64 s, .int .i64 l, .int .i64 0]] w (Gives (.tuple #[.agg #[.int .i64 0, .int .i64 0], .iface t v]) w) := by
  have hV := fun W => iLevelValid s l 0 W
  rw [L.ok] at hV
  have HV := Lib.hid hV
  clear hV L
  go_enter Tryd.func37, Tryd.ntmps37
  go_wp2_with fail
  (with_reducible refine (HV.out _).mono ?_)
  rintro e w1 ⟨rfl, b1⟩
  have hz1 := b1.size
  obtain ⟨hc1, hf1⟩ := bcell b1
  have B1 : Below w.heap.size w w1 := Below.trans (by repeat (first | (with_reducible refine Below.drew ?_) | (with_reducible refine below_drewN ?_ _) | (with_reducible refine Below.alloc ?_ ?_ _) | (with_reducible refine Below.setCell ?_ ?_ _) | (with_reducible assumption) | (with_reducible exact Below.refl _ _) | omega | (simp <;> omega))) (b1.mono (by first | omega | (simp <;> omega)))
  (try simp at hz1)
  have hy1 : w.heap.size < w1.heap.size := by omega
  clear b1
  have kc1_0_0 : w1.cell? ⟨w.heap.size, 0, none⟩ = some (.int .i64 s) := (hc1 (w.heap.size) 0 (by first | omega | (simp <;> omega))).trans (by first | (simp; done) | (simp [*]; done) | (simp [*, World.cell?_alloc_at, World.cell?_alloc_past, World.cell?_alloc_lt, lt2, lt3, lt4]; done))
  have kc1_1_0 : w1.cell? ⟨w.heap.size, 1, none⟩ = some (.int .i64 l) := (hc1 (w.heap.size) 1 (by first | omega | (simp <;> omega))).trans (by first | (simp; done) | (simp [*]; done) | (simp [*, World.cell?_alloc_at, World.cell?_alloc_past, World.cell?_alloc_lt, lt2, lt3, lt4]; done))
  have kc1_2_0 : w1.cell? ⟨w.heap.size, 2, none⟩ = some (.int .i64 0) := (hc1 (w.heap.size) 2 (by first | omega | (simp <;> omega))).trans (by first | (simp; done) | (simp [*]; done) | (simp [*, World.cell?_alloc_at, World.cell?_alloc_past, World.cell?_alloc_lt, lt2, lt3, lt4]; done))
  have kc1_0_1 : w1.cell? ⟨w.heap.size + 1, 0, none⟩ = some (.int .i64 0) := (hc1 (w.heap.size + 1) 0 (by first | omega | (simp <;> omega))).trans (by first | (simp; done) | (simp [*]; done) | (simp [*, World.cell?_alloc_at, World.cell?_alloc_past, World.cell?_alloc_lt, lt2, lt3, lt4]; done))
  have kc1_1_1 : w1.cell? ⟨w.heap.size + 1, 1, none⟩ = some (.int .i64 0) := (hc1 (w.heap.size + 1) 1 (by first | omega | (simp <;> omega))).trans (by first | (simp; done) | (simp [*]; done) | (simp [*, World.cell?_alloc_at, World.cell?_alloc_past, World.cell?_alloc_lt, lt2, lt3, lt4]; done))
  have kf1_0_1 : w1.frozen? ⟨w.heap.size + 1, 0, none⟩ = false := (hf1 (w.heap.size + 1) 0 (by first | omega | (simp <;> omega))).trans (by first | (simp; done) | (simp [*]; done) | (simp [*, World.frozen?_alloc_at, World.frozen?_alloc_past, lt2, lt3, lt4]; done))
  have kf1_1_1 : w1.frozen? ⟨w.heap.size + 1, 1, none⟩ = false := (hf1 (w.heap.size + 1) 1 (by first | omega | (simp <;> omega))).trans (by first | (simp; done) | (simp [*]; done) | (simp [*, World.frozen?_alloc_at, World.frozen?_alloc_past, lt2, lt3, lt4]; done))
  have hx1 : w.heap.size + 1 < w1.heap.size := by omega
  have hE1 : w1.cell? ⟨1, 0, none⟩ = some (.iface t v) := (B1.cell (p := ⟨1, 0, none⟩) hlt).trans hE
  have hne : ¬ 1 = w.heap.size + 1 := by omega
  have hne2 : ¬ w.heap.size + 1 = 1 := by omega
  clear hE hc1 hf1
  go_wp2_with fail
  go_region
  go_wp2
  refine bodyPost_ret (v := .tuple #[.agg #[.int .i64 0, .int .i64 0], .iface t v]) (by simp [results, Tryd.results37, go_sem, *, lt2, lt3, lt4, lt5, lt6]) rfl ⟨rfl, (by repeat (first | (with_reducible refine Below.drew ?_) | (with_reducible refine below_drewN ?_ _) | (with_reducible refine Below.alloc ?_ ?_ _) | (with_reducible refine Below.setCell ?_ ?_ _) | (with_reducible assumption) | (with_reducible exact Below.refl _ _) | omega | (simp <;> omega)))⟩
set_option maxRecDepth 100000 in
set_option maxHeartbeats 8000000 in
theorem iFactor1 (s l j : Int) (L : Lv s l j) (h0 : ¬ j = 0) (w : World) :
    Calls Tryd.prog 37 #[.agg #[.int .i64 s, .int .i64 l, .int .i64 j]] w (Gives (.tuple #[.agg #[.int .i64 (facR s l j).n, .int .i64 (facR s l j).d], Value.nilIface]) w) := by
  have hV := fun W => iLevelValid s l j W
  rw [L.ok] at hV
  have HV := Lib.hid hV
  have hg := ign_is (s := s) (l := l) h0
  have hb := L.gn
  have hd := gd_bd L.hj
  have hlb := L.bd
  have hjj := L.hj
  have hQ1 := fun W => iSquare s l j j W (by omega)
  have hQ2 := fun W => iSquare s l j s W (by omega)
  have hQ3 := fun W => iSquare s l j (2 * l) W (by omega)
  have hR := fun W => iRatOf (gn s l j) (gd j) W (by omega) (by omega)
  have hf : mkR (gn s l j) (gd j) = facR s l j := rfl
  have hok : (facR s l j).ok = true := by rw [L.fac]
  rw [hf] at hR
  have b2 := mul_bds (a := s) (b := s + 2) (A := 8) (B := 10) (by omega) (by omega) (by omega) (by omega) (by omega)
  have b3 := mul_bds (a := 2 * l) (b := 2 * l + 2) (A := 16) (B := 18) (by omega) (by omega) (by omega) (by omega) (by omega)
  unfold roV at hR
  rw [hok] at hR
  rw [← hg.2] at hR
  have hq : 0 ≤ j * (j + 2) ∧ j * (j + 2) ≤ 48 := by omega
  have hg1 := hg.1
  have h0' : (j == 0) = false := by simp [h0]
  generalize facR s l j = r at *
  obtain ⟨rn, rd, rok⟩ := r
  generalize j * (j + 2) = jj at *
  generalize s * (s + 2) = ss at *
  generalize hll : 2 * l * (2 * l + 2) = ll at *
  generalize gn s l j = g at *
  generalize gd j = d at *
  have hq1 := hq.1
  have hq2 := hq.2
  have hl0 := hlb.2.1
  have hl1 := hlb.2.2
  have e0 : IntKind.i64.wrap (2 * l) = 2 * l := IntWalk.i64_in _ (by omega)
  have e1 : IntKind.i64.wrap (2 * jj + jj) = 2 * jj + jj := IntWalk.i64_in _ (by omega)
  have e2 : IntKind.i64.wrap (2 * jj + jj + ss) = 2 * jj + jj + ss := IntWalk.i64_in _ (by omega)
  have e3 : IntKind.i64.wrap (2 * jj + jj + ss - ll) = g := by rw [IntWalk.i64_in _ (by omega)]; exact hg1
  have HQ1 := Lib.hid hQ1
  have HQ2 := Lib.hid hQ2
  have HQ3 := Lib.hid hQ3
  have HR := Lib.hid hR
  clear hll hQ1 hQ2 hQ3 hR hV hf hg hg1 hb hd hlb hjj b2 b3 hq L h0 hok
  go_enter Tryd.func37, Tryd.ntmps37
  go_wp2_with fail
  (with_reducible refine (HV.out _).mono ?_)
  rintro e w1 ⟨rfl, b1⟩
  have hz1 := b1.size
  obtain ⟨hc1, hf1⟩ := bcell b1
  have B1 : Below w.heap.size w w1 := Below.trans (by repeat (first | (with_reducible refine Below.drew ?_) | (with_reducible refine below_drewN ?_ _) | (with_reducible refine Below.alloc ?_ ?_ _) | (with_reducible refine Below.setCell ?_ ?_ _) | (with_reducible assumption) | (with_reducible exact Below.refl _ _) | omega | (simp <;> omega))) (b1.mono (by first | omega | (simp <;> omega)))
  (try simp at hz1)
  have hy1 : w.heap.size < w1.heap.size := by omega
  clear b1
  have kc1_0_0 : w1.cell? ⟨w.heap.size, 0, none⟩ = some (.int .i64 s) := (hc1 (w.heap.size) 0 (by first | omega | (simp <;> omega))).trans (by first | (simp; done) | (simp [*]; done) | (simp [*, World.cell?_alloc_at, World.cell?_alloc_past, World.cell?_alloc_lt, lt2, lt3, lt4]; done))
  have kc1_1_0 : w1.cell? ⟨w.heap.size, 1, none⟩ = some (.int .i64 l) := (hc1 (w.heap.size) 1 (by first | omega | (simp <;> omega))).trans (by first | (simp; done) | (simp [*]; done) | (simp [*, World.cell?_alloc_at, World.cell?_alloc_past, World.cell?_alloc_lt, lt2, lt3, lt4]; done))
  have kc1_2_0 : w1.cell? ⟨w.heap.size, 2, none⟩ = some (.int .i64 j) := (hc1 (w.heap.size) 2 (by first | omega | (simp <;> omega))).trans (by first | (simp; done) | (simp [*]; done) | (simp [*, World.cell?_alloc_at, World.cell?_alloc_past, World.cell?_alloc_lt, lt2, lt3, lt4]; done))
  have kc1_0_1 : w1.cell? ⟨w.heap.size + 1, 0, none⟩ = some (.int .i64 0) := (hc1 (w.heap.size + 1) 0 (by first | omega | (simp <;> omega))).trans (by first | (simp; done) | (simp [*]; done) | (simp [*, World.cell?_alloc_at, World.cell?_alloc_past, World.cell?_alloc_lt, lt2, lt3, lt4]; done))
  have kc1_1_1 : w1.cell? ⟨w.heap.size + 1, 1, none⟩ = some (.int .i64 0) := (hc1 (w.heap.size + 1) 1 (by first | omega | (simp <;> omega))).trans (by first | (simp; done) | (simp [*]; done) | (simp [*, World.cell?_alloc_at, World.cell?_alloc_past, World.cell?_alloc_lt, lt2, lt3, lt4]; done))
  have kf1_0_1 : w1.frozen? ⟨w.heap.size + 1, 0, none⟩ = false := (hf1 (w.heap.size + 1) 0 (by first | omega | (simp <;> omega))).trans (by first | (simp; done) | (simp [*]; done) | (simp [*, World.frozen?_alloc_at, World.frozen?_alloc_past, lt2, lt3, lt4]; done))
  have kf1_1_1 : w1.frozen? ⟨w.heap.size + 1, 1, none⟩ = false := (hf1 (w.heap.size + 1) 1 (by first | omega | (simp <;> omega))).trans (by first | (simp; done) | (simp [*]; done) | (simp [*, World.frozen?_alloc_at, World.frozen?_alloc_past, lt2, lt3, lt4]; done))
  have hx1 : w.heap.size + 1 < w1.heap.size := by omega
  go_wp2_with fail
  (with_reducible refine (HQ1.out _).mono ?_)
  rintro e w2 ⟨rfl, b2⟩
  have hz2 := b2.size
  obtain ⟨hc2, hf2⟩ := bcell b2
  have B2 : Below w.heap.size w w2 := Below.trans (by repeat (first | (with_reducible refine Below.drew ?_) | (with_reducible refine below_drewN ?_ _) | (with_reducible refine Below.alloc ?_ ?_ _) | (with_reducible refine Below.setCell ?_ ?_ _) | (with_reducible assumption) | (with_reducible exact Below.refl _ _) | omega | (simp <;> omega))) (b2.mono (by first | omega | (simp <;> omega)))
  (try simp at hz2)
  have hy2 : w.heap.size < w2.heap.size := by omega
  clear b2
  have kc2_0_1 : w2.cell? ⟨w.heap.size + 1, 0, none⟩ = some (.int .i64 0) := (hc2 (w.heap.size + 1) 0 (by first | omega | (simp <;> omega))).trans (by first | (simp; done) | (simp [*]; done) | (simp [*, World.cell?_alloc_at, World.cell?_alloc_past, World.cell?_alloc_lt, lt2, lt3, lt4]; done))
  have kc2_1_1 : w2.cell? ⟨w.heap.size + 1, 1, none⟩ = some (.int .i64 0) := (hc2 (w.heap.size + 1) 1 (by first | omega | (simp <;> omega))).trans (by first | (simp; done) | (simp [*]; done) | (simp [*, World.cell?_alloc_at, World.cell?_alloc_past, World.cell?_alloc_lt, lt2, lt3, lt4]; done))
  have kf2_0_1 : w2.frozen? ⟨w.heap.size + 1, 0, none⟩ = false := (hf2 (w.heap.size + 1) 0 (by first | omega | (simp <;> omega))).trans (by first | (simp; done) | (simp [*]; done) | (simp [*, World.frozen?_alloc_at, World.frozen?_alloc_past, lt2, lt3, lt4]; done))
  have kf2_1_1 : w2.frozen? ⟨w.heap.size + 1, 1, none⟩ = false := (hf2 (w.heap.size + 1) 1 (by first | omega | (simp <;> omega))).trans (by first | (simp; done) | (simp [*]; done) | (simp [*, World.frozen?_alloc_at, World.frozen?_alloc_past, lt2, lt3, lt4]; done))
  have kc2_0_0 : w2.cell? ⟨w1.heap.size, 0, none⟩ = some (.int .i64 s) := (hc2 (w1.heap.size) 0 (by first | omega | (simp <;> omega))).trans (by first | (simp; done) | (simp [*]; done) | (simp [*, World.cell?_alloc_at, World.cell?_alloc_past, World.cell?_alloc_lt, lt2, lt3, lt4]; done))
  have kc2_1_0 : w2.cell? ⟨w1.heap.size, 1, none⟩ = some (.int .i64 l) := (hc2 (w1.heap.size) 1 (by first | omega | (simp <;> omega))).trans (by first | (simp; done) | (simp [*]; done) | (simp [*, World.cell?_alloc_at, World.cell?_alloc_past, World.cell?_alloc_lt, lt2, lt3, lt4]; done))
  have kc2_2_0 : w2.cell? ⟨w1.heap.size, 2, none⟩ = some (.int .i64 j) := (hc2 (w1.heap.size) 2 (by first | omega | (simp <;> omega))).trans (by first | (simp; done) | (simp [*]; done) | (simp [*, World.cell?_alloc_at, World.cell?_alloc_past, World.cell?_alloc_lt, lt2, lt3, lt4]; done))
  have hx2 : w.heap.size + 1 < w2.heap.size := by omega
  have hM2 : w1.heap.size < w2.heap.size := by omega
  have TR2 : Two w2 (w.heap.size + 1) 0 0 := ⟨kc2_0_1, kc2_1_1, kf2_0_1, kf2_1_1, hx2⟩
  have HTR2 := Lib.hid TR2
  have m0 := kc2_0_0
  have m1 := kc2_1_0
  have m2 := kc2_2_0
  have HB2 := Lib.hid B2
  obtain ⟨M, hMM⟩ : ∃ M, M = w1.heap.size := ⟨_, rfl⟩
  rw [← hMM] at m0 m1 m2 hM2
  clear kc1_0_0 kc1_1_0 kc1_2_0 kc1_0_1 kc1_1_1 kf1_0_1 kf1_1_1 kc2_0_1 kc2_1_1 kf2_0_1 kf2_1_1 kc2_0_0 kc2_1_0 kc2_2_0 TR2 hc1 hf1 hc2 hf2 B1 B2 hz1 hz2 hy1 hy2 hx1
  go_upto_region 7 with fail
  simp only [← hMM]
  clear hMM
  obtain ⟨wr, rfl⟩ : ∃ wr : World, wr = w2 := ⟨_, rfl⟩
  go_cut [6, 7] (fun s10 s11 wx => ∃ T : Nat, s10 = .pointer (some ⟨T, 0, none⟩) ∧ s11 = .bool true ∧ Two wx T rn rd ∧ wr.heap.size ≤ T ∧ Below wr.heap.size wr wx)
  case first =>
    clear HV HTR2 HB2 hx2
    have Z0m0 := Lib.hid m0
    have Z0m1 := Lib.hid m1
    have Z0m2 := Lib.hid m2
    go_region_held3 (fun w' => w'.cell? ⟨M, 0, none⟩ = some (.int .i64 (s)) ∧ w'.cell? ⟨M, 1, none⟩ = some (.int .i64 (l)) ∧ w'.cell? ⟨M, 2, none⟩ = some (.int .i64 (j)))
      (first | with_reducible exact ⟨m0, m1, m2⟩ | (refine ⟨?_, ?_, ?_⟩ <;> (repeat (first | (with_reducible assumption) | (with_reducible refine cd ?_) | (with_reducible refine ca ?_ (by first | omega | (simp <;> omega)) _) | (with_reducible refine cs ?_ (by first | omega | (simp <;> omega)) _)))))
      (first | ((with_reducible refine (HQ1.out _).mono ?_); rintro e wq1 ⟨rfl, bq1⟩; have BQ1 : Below wr.heap.size wr wq1 := Below.trans (by repeat (first | (with_reducible refine Below.drew ?_) | (with_reducible refine below_drewN ?_ _) | (with_reducible refine Below.alloc ?_ ?_ _) | (with_reducible refine Below.setCell ?_ ?_ _) | (with_reducible assumption) | (with_reducible exact Below.refl _ _) | omega | (simp <;> omega))) (bq1.mono (by first | omega | (simp <;> omega))); have hq1 := BQ1.size; have hr1 := bq1.size; (try simp at hr1); have m0 := (BQ1.cell (p := ⟨M, 0, none⟩) hM2).trans Z0m0.out; have m1 := (BQ1.cell (p := ⟨M, 1, none⟩) hM2).trans Z0m1.out; have m2 := (BQ1.cell (p := ⟨M, 2, none⟩) hM2).trans Z0m2.out; (try (have TB1_0 : Two wq1 (wr.heap.size) 0 0 := (by first | ((repeat (first | (with_reducible assumption) | (with_reducible exact Two.new _ _ _ _) | (with_reducible exact two_new1 _ _ _ _ _) | (with_reducible refine Two.put (x := 0) (y := 0) ?_ _ _) | (with_reducible refine Two.drew ?_) | (with_reducible refine Two.alloc ?_ _) | (with_reducible refine two_below bq1 ?_) | (with_reducible refine two_below bq2 ?_) | (with_reducible refine two_below bq3 ?_) | (with_reducible refine two_below bq4 ?_) | (with_reducible refine Two.set ?_ (by first | omega | (simp <;> omega)) _))); done) | fail); have TH1_0 := Lib.hid TB1_0; obtain ⟨tc1_0, td1_0, tf1_0, tg1_0, tl1_0⟩ := TB1_0)); (try (have TB1_1 : Two wq1 (wr.heap.size + 1) 0 0 := (by first | ((repeat (first | (with_reducible assumption) | (with_reducible exact Two.new _ _ _ _) | (with_reducible exact two_new1 _ _ _ _ _) | (with_reducible refine Two.put (x := 0) (y := 0) ?_ _ _) | (with_reducible refine Two.drew ?_) | (with_reducible refine Two.alloc ?_ _) | (with_reducible refine two_below bq1 ?_) | (with_reducible refine two_below bq2 ?_) | (with_reducible refine two_below bq3 ?_) | (with_reducible refine two_below bq4 ?_) | (with_reducible refine Two.set ?_ (by first | omega | (simp <;> omega)) _))); done) | fail); have TH1_1 := Lib.hid TB1_1; obtain ⟨tc1_1, td1_1, tf1_1, tg1_1, tl1_1⟩ := TB1_1)); skip)
             | ((with_reducible refine (HQ2.out _).mono ?_); rintro e wq2 ⟨rfl, bq2⟩; have BQ2 : Below wr.heap.size wr wq2 := Below.trans (by repeat (first | (with_reducible refine Below.drew ?_) | (with_reducible refine below_drewN ?_ _) | (with_reducible refine Below.alloc ?_ ?_ _) | (with_reducible refine Below.setCell ?_ ?_ _) | (with_reducible assumption) | (with_reducible exact Below.refl _ _) | omega | (simp <;> omega))) (bq2.mono (by first | omega | (simp <;> omega))); have hq2 := BQ2.size; have hr2 := bq2.size; (try simp at hr2); have m0 := (BQ2.cell (p := ⟨M, 0, none⟩) hM2).trans Z0m0.out; have m1 := (BQ2.cell (p := ⟨M, 1, none⟩) hM2).trans Z0m1.out; have m2 := (BQ2.cell (p := ⟨M, 2, none⟩) hM2).trans Z0m2.out; (try (have TB2_0 : Two wq2 (wr.heap.size) 0 0 := (by first | ((repeat (first | (with_reducible assumption) | (with_reducible exact Two.new _ _ _ _) | (with_reducible exact two_new1 _ _ _ _ _) | (with_reducible refine Two.put (x := 0) (y := 0) ?_ _ _) | (with_reducible refine Two.drew ?_) | (with_reducible refine Two.alloc ?_ _) | (with_reducible refine two_below bq1 ?_) | (with_reducible refine two_below bq2 ?_) | (with_reducible refine two_below bq3 ?_) | (with_reducible refine two_below bq4 ?_) | (with_reducible refine Two.set ?_ (by first | omega | (simp <;> omega)) _))); done) | fail); have TH2_0 := Lib.hid TB2_0; obtain ⟨tc2_0, td2_0, tf2_0, tg2_0, tl2_0⟩ := TB2_0)); (try (have TB2_1 : Two wq2 (wr.heap.size + 1) 0 0 := (by first | ((repeat (first | (with_reducible assumption) | (with_reducible exact Two.new _ _ _ _) | (with_reducible exact two_new1 _ _ _ _ _) | (with_reducible refine Two.put (x := 0) (y := 0) ?_ _ _) | (with_reducible refine Two.drew ?_) | (with_reducible refine Two.alloc ?_ _) | (with_reducible refine two_below bq1 ?_) | (with_reducible refine two_below bq2 ?_) | (with_reducible refine two_below bq3 ?_) | (with_reducible refine two_below bq4 ?_) | (with_reducible refine Two.set ?_ (by first | omega | (simp <;> omega)) _))); done) | fail); have TH2_1 := Lib.hid TB2_1; obtain ⟨tc2_1, td2_1, tf2_1, tg2_1, tl2_1⟩ := TB2_1)); (try (have TB2_2 : Two wq2 (wq1.heap.size) 0 0 := (by first | ((repeat (first | (with_reducible assumption) | (with_reducible exact Two.new _ _ _ _) | (with_reducible exact two_new1 _ _ _ _ _) | (with_reducible refine Two.put (x := 0) (y := 0) ?_ _ _) | (with_reducible refine Two.drew ?_) | (with_reducible refine Two.alloc ?_ _) | (with_reducible refine two_below bq1 ?_) | (with_reducible refine two_below bq2 ?_) | (with_reducible refine two_below bq3 ?_) | (with_reducible refine two_below bq4 ?_) | (with_reducible refine Two.set ?_ (by first | omega | (simp <;> omega)) _))); done) | fail); have TH2_2 := Lib.hid TB2_2; obtain ⟨tc2_2, td2_2, tf2_2, tg2_2, tl2_2⟩ := TB2_2)); (try (have TB2_3 : Two wq2 (wq1.heap.size + 1) 0 0 := (by first | ((repeat (first | (with_reducible assumption) | (with_reducible exact Two.new _ _ _ _) | (with_reducible exact two_new1 _ _ _ _ _) | (with_reducible refine Two.put (x := 0) (y := 0) ?_ _ _) | (with_reducible refine Two.drew ?_) | (with_reducible refine Two.alloc ?_ _) | (with_reducible refine two_below bq1 ?_) | (with_reducible refine two_below bq2 ?_) | (with_reducible refine two_below bq3 ?_) | (with_reducible refine two_below bq4 ?_) | (with_reducible refine Two.set ?_ (by first | omega | (simp <;> omega)) _))); done) | fail); have TH2_3 := Lib.hid TB2_3; obtain ⟨tc2_3, td2_3, tf2_3, tg2_3, tl2_3⟩ := TB2_3)); skip)
             | ((with_reducible refine (HQ3.out _).mono ?_); rintro e wq3 ⟨rfl, bq3⟩; have BQ3 : Below wr.heap.size wr wq3 := Below.trans (by repeat (first | (with_reducible refine Below.drew ?_) | (with_reducible refine below_drewN ?_ _) | (with_reducible refine Below.alloc ?_ ?_ _) | (with_reducible refine Below.setCell ?_ ?_ _) | (with_reducible assumption) | (with_reducible exact Below.refl _ _) | omega | (simp <;> omega))) (bq3.mono (by first | omega | (simp <;> omega))); have hq3 := BQ3.size; have hr3 := bq3.size; (try simp at hr3); have m0 := (BQ3.cell (p := ⟨M, 0, none⟩) hM2).trans Z0m0.out; have m1 := (BQ3.cell (p := ⟨M, 1, none⟩) hM2).trans Z0m1.out; have m2 := (BQ3.cell (p := ⟨M, 2, none⟩) hM2).trans Z0m2.out; (try (have TB3_0 : Two wq3 (wr.heap.size) 0 0 := (by first | ((repeat (first | (with_reducible assumption) | (with_reducible exact Two.new _ _ _ _) | (with_reducible exact two_new1 _ _ _ _ _) | (with_reducible refine Two.put (x := 0) (y := 0) ?_ _ _) | (with_reducible refine Two.drew ?_) | (with_reducible refine Two.alloc ?_ _) | (with_reducible refine two_below bq1 ?_) | (with_reducible refine two_below bq2 ?_) | (with_reducible refine two_below bq3 ?_) | (with_reducible refine two_below bq4 ?_) | (with_reducible refine Two.set ?_ (by first | omega | (simp <;> omega)) _))); done) | fail); have TH3_0 := Lib.hid TB3_0; obtain ⟨tc3_0, td3_0, tf3_0, tg3_0, tl3_0⟩ := TB3_0)); (try (have TB3_1 : Two wq3 (wr.heap.size + 1) 0 0 := (by first | ((repeat (first | (with_reducible assumption) | (with_reducible exact Two.new _ _ _ _) | (with_reducible exact two_new1 _ _ _ _ _) | (with_reducible refine Two.put (x := 0) (y := 0) ?_ _ _) | (with_reducible refine Two.drew ?_) | (with_reducible refine Two.alloc ?_ _) | (with_reducible refine two_below bq1 ?_) | (with_reducible refine two_below bq2 ?_) | (with_reducible refine two_below bq3 ?_) | (with_reducible refine two_below bq4 ?_) | (with_reducible refine Two.set ?_ (by first | omega | (simp <;> omega)) _))); done) | fail); have TH3_1 := Lib.hid TB3_1; obtain ⟨tc3_1, td3_1, tf3_1, tg3_1, tl3_1⟩ := TB3_1)); (try (have TB3_2 : Two wq3 (wq1.heap.size) 0 0 := (by first | ((repeat (first | (with_reducible assumption) | (with_reducible exact Two.new _ _ _ _) | (with_reducible exact two_new1 _ _ _ _ _) | (with_reducible refine Two.put (x := 0) (y := 0) ?_ _ _) | (with_reducible refine Two.drew ?_) | (with_reducible refine Two.alloc ?_ _) | (with_reducible refine two_below bq1 ?_) | (with_reducible refine two_below bq2 ?_) | (with_reducible refine two_below bq3 ?_) | (with_reducible refine two_below bq4 ?_) | (with_reducible refine Two.set ?_ (by first | omega | (simp <;> omega)) _))); done) | fail); have TH3_2 := Lib.hid TB3_2; obtain ⟨tc3_2, td3_2, tf3_2, tg3_2, tl3_2⟩ := TB3_2)); (try (have TB3_3 : Two wq3 (wq1.heap.size + 1) 0 0 := (by first | ((repeat (first | (with_reducible assumption) | (with_reducible exact Two.new _ _ _ _) | (with_reducible exact two_new1 _ _ _ _ _) | (with_reducible refine Two.put (x := 0) (y := 0) ?_ _ _) | (with_reducible refine Two.drew ?_) | (with_reducible refine Two.alloc ?_ _) | (with_reducible refine two_below bq1 ?_) | (with_reducible refine two_below bq2 ?_) | (with_reducible refine two_below bq3 ?_) | (with_reducible refine two_below bq4 ?_) | (with_reducible refine Two.set ?_ (by first | omega | (simp <;> omega)) _))); done) | fail); have TH3_3 := Lib.hid TB3_3; obtain ⟨tc3_3, td3_3, tf3_3, tg3_3, tl3_3⟩ := TB3_3)); (try (have TB3_4 : Two wq3 (wq2.heap.size) 0 0 := (by first | ((repeat (first | (with_reducible assumption) | (with_reducible exact Two.new _ _ _ _) | (with_reducible exact two_new1 _ _ _ _ _) | (with_reducible refine Two.put (x := 0) (y := 0) ?_ _ _) | (with_reducible refine Two.drew ?_) | (with_reducible refine Two.alloc ?_ _) | (with_reducible refine two_below bq1 ?_) | (with_reducible refine two_below bq2 ?_) | (with_reducible refine two_below bq3 ?_) | (with_reducible refine two_below bq4 ?_) | (with_reducible refine Two.set ?_ (by first | omega | (simp <;> omega)) _))); done) | fail); have TH3_4 := Lib.hid TB3_4; obtain ⟨tc3_4, td3_4, tf3_4, tg3_4, tl3_4⟩ := TB3_4)); (try (have TB3_5 : Two wq3 (wq2.heap.size + 1) 0 0 := (by first | ((repeat (first | (with_reducible assumption) | (with_reducible exact Two.new _ _ _ _) | (with_reducible exact two_new1 _ _ _ _ _) | (with_reducible refine Two.put (x := 0) (y := 0) ?_ _ _) | (with_reducible refine Two.drew ?_) | (with_reducible refine Two.alloc ?_ _) | (with_reducible refine two_below bq1 ?_) | (with_reducible refine two_below bq2 ?_) | (with_reducible refine two_below bq3 ?_) | (with_reducible refine two_below bq4 ?_) | (with_reducible refine Two.set ?_ (by first | omega | (simp <;> omega)) _))); done) | fail); have TH3_5 := Lib.hid TB3_5; obtain ⟨tc3_5, td3_5, tf3_5, tg3_5, tl3_5⟩ := TB3_5)); skip)
             | ((with_reducible refine (HR.out _).mono ?_); rintro e wq4 ⟨rfl, bq4⟩; have BQ4 : Below wr.heap.size wr wq4 := Below.trans (by repeat (first | (with_reducible refine Below.drew ?_) | (with_reducible refine below_drewN ?_ _) | (with_reducible refine Below.alloc ?_ ?_ _) | (with_reducible refine Below.setCell ?_ ?_ _) | (with_reducible assumption) | (with_reducible exact Below.refl _ _) | omega | (simp <;> omega))) (bq4.mono (by first | omega | (simp <;> omega))); have hq4 := BQ4.size; have hr4 := bq4.size; (try simp at hr4); have m0 := (BQ4.cell (p := ⟨M, 0, none⟩) hM2).trans Z0m0.out; have m1 := (BQ4.cell (p := ⟨M, 1, none⟩) hM2).trans Z0m1.out; have m2 := (BQ4.cell (p := ⟨M, 2, none⟩) hM2).trans Z0m2.out; (try (have TB4_0 : Two wq4 (wr.heap.size) 0 0 := (by first | ((repeat (first | (with_reducible assumption) | (with_reducible exact Two.new _ _ _ _) | (with_reducible exact two_new1 _ _ _ _ _) | (with_reducible refine Two.put (x := 0) (y := 0) ?_ _ _) | (with_reducible refine Two.drew ?_) | (with_reducible refine Two.alloc ?_ _) | (with_reducible refine two_below bq1 ?_) | (with_reducible refine two_below bq2 ?_) | (with_reducible refine two_below bq3 ?_) | (with_reducible refine two_below bq4 ?_) | (with_reducible refine Two.set ?_ (by first | omega | (simp <;> omega)) _))); done) | fail); have TH4_0 := Lib.hid TB4_0; obtain ⟨tc4_0, td4_0, tf4_0, tg4_0, tl4_0⟩ := TB4_0)); (try (have TB4_1 : Two wq4 (wr.heap.size + 1) 0 0 := (by first | ((repeat (first | (with_reducible assumption) | (with_reducible exact Two.new _ _ _ _) | (with_reducible exact two_new1 _ _ _ _ _) | (with_reducible refine Two.put (x := 0) (y := 0) ?_ _ _) | (with_reducible refine Two.drew ?_) | (with_reducible refine Two.alloc ?_ _) | (with_reducible refine two_below bq1 ?_) | (with_reducible refine two_below bq2 ?_) | (with_reducible refine two_below bq3 ?_) | (with_reducible refine two_below bq4 ?_) | (with_reducible refine Two.set ?_ (by first | omega | (simp <;> omega)) _))); done) | fail); have TH4_1 := Lib.hid TB4_1; obtain ⟨tc4_1, td4_1, tf4_1, tg4_1, tl4_1⟩ := TB4_1)); (try (have TB4_2 : Two wq4 (wq1.heap.size) 0 0 := (by first | ((repeat (first | (with_reducible assumption) | (with_reducible exact Two.new _ _ _ _) | (with_reducible exact two_new1 _ _ _ _ _) | (with_reducible refine Two.put (x := 0) (y := 0) ?_ _ _) | (with_reducible refine Two.drew ?_) | (with_reducible refine Two.alloc ?_ _) | (with_reducible refine two_below bq1 ?_) | (with_reducible refine two_below bq2 ?_) | (with_reducible refine two_below bq3 ?_) | (with_reducible refine two_below bq4 ?_) | (with_reducible refine Two.set ?_ (by first | omega | (simp <;> omega)) _))); done) | fail); have TH4_2 := Lib.hid TB4_2; obtain ⟨tc4_2, td4_2, tf4_2, tg4_2, tl4_2⟩ := TB4_2)); (try (have TB4_3 : Two wq4 (wq1.heap.size + 1) 0 0 := (by first | ((repeat (first | (with_reducible assumption) | (with_reducible exact Two.new _ _ _ _) | (with_reducible exact two_new1 _ _ _ _ _) | (with_reducible refine Two.put (x := 0) (y := 0) ?_ _ _) | (with_reducible refine Two.drew ?_) | (with_reducible refine Two.alloc ?_ _) | (with_reducible refine two_below bq1 ?_) | (with_reducible refine two_below bq2 ?_) | (with_reducible refine two_below bq3 ?_) | (with_reducible refine two_below bq4 ?_) | (with_reducible refine Two.set ?_ (by first | omega | (simp <;> omega)) _))); done) | fail); have TH4_3 := Lib.hid TB4_3; obtain ⟨tc4_3, td4_3, tf4_3, tg4_3, tl4_3⟩ := TB4_3)); (try (have TB4_4 : Two wq4 (wq2.heap.size) 0 0 := (by first | ((repeat (first | (with_reducible assumption) | (with_reducible exact Two.new _ _ _ _) | (with_reducible exact two_new1 _ _ _ _ _) | (with_reducible refine Two.put (x := 0) (y := 0) ?_ _ _) | (with_reducible refine Two.drew ?_) | (with_reducible refine Two.alloc ?_ _) | (with_reducible refine two_below bq1 ?_) | (with_reducible refine two_below bq2 ?_) | (with_reducible refine two_below bq3 ?_) | (with_reducible refine two_below bq4 ?_) | (with_reducible refine Two.set ?_ (by first | omega | (simp <;> omega)) _))); done) | fail); have TH4_4 := Lib.hid TB4_4; obtain ⟨tc4_4, td4_4, tf4_4, tg4_4, tl4_4⟩ := TB4_4)); (try (have TB4_5 : Two wq4 (wq2.heap.size + 1) 0 0 := (by first | ((repeat (first | (with_reducible assumption) | (with_reducible exact Two.new _ _ _ _) | (with_reducible exact two_new1 _ _ _ _ _) | (with_reducible refine Two.put (x := 0) (y := 0) ?_ _ _) | (with_reducible refine Two.drew ?_) | (with_reducible refine Two.alloc ?_ _) | (with_reducible refine two_below bq1 ?_) | (with_reducible refine two_below bq2 ?_) | (with_reducible refine two_below bq3 ?_) | (with_reducible refine two_below bq4 ?_) | (with_reducible refine Two.set ?_ (by first | omega | (simp <;> omega)) _))); done) | fail); have TH4_5 := Lib.hid TB4_5; obtain ⟨tc4_5, td4_5, tf4_5, tg4_5, tl4_5⟩ := TB4_5)); (try (have TB4_6 : Two wq4 (wq3.heap.size) 0 0 := (by first | ((repeat (first | (with_reducible assumption) | (with_reducible exact Two.new _ _ _ _) | (with_reducible exact two_new1 _ _ _ _ _) | (with_reducible refine Two.put (x := 0) (y := 0) ?_ _ _) | (with_reducible refine Two.drew ?_) | (with_reducible refine Two.alloc ?_ _) | (with_reducible refine two_below bq1 ?_) | (with_reducible refine two_below bq2 ?_) | (with_reducible refine two_below bq3 ?_) | (with_reducible refine two_below bq4 ?_) | (with_reducible refine Two.set ?_ (by first | omega | (simp <;> omega)) _))); done) | fail); have TH4_6 := Lib.hid TB4_6; obtain ⟨tc4_6, td4_6, tf4_6, tg4_6, tl4_6⟩ := TB4_6)); (try (have TB4_7 : Two wq4 (wq3.heap.size + 1) 0 0 := (by first | ((repeat (first | (with_reducible assumption) | (with_reducible exact Two.new _ _ _ _) | (with_reducible exact two_new1 _ _ _ _ _) | (with_reducible refine Two.put (x := 0) (y := 0) ?_ _ _) | (with_reducible refine Two.drew ?_) | (with_reducible refine Two.alloc ?_ _) | (with_reducible refine two_below bq1 ?_) | (with_reducible refine two_below bq2 ?_) | (with_reducible refine two_below bq3 ?_) | (with_reducible refine two_below bq4 ?_) | (with_reducible refine Two.set ?_ (by first | omega | (simp <;> omega)) _))); done) | fail); have TH4_7 := Lib.hid TB4_7; obtain ⟨tc4_7, td4_7, tf4_7, tg4_7, tl4_7⟩ := TB4_7)); skip))
    all_goals go_wp2_with fail
    all_goals go_meet
    all_goals (refine ⟨_, rfl, rfl, ?_, ?_, ?_⟩)
    all_goals first | ((repeat (first | (with_reducible refine Below.drew ?_) | (with_reducible refine below_drewN ?_ _) | (with_reducible refine Below.alloc ?_ ?_ _) | (with_reducible refine Below.setCell ?_ ?_ _) | (with_reducible assumption) | (with_reducible exact Below.refl _ _) | omega | (simp <;> omega))); done) | ((repeat (first | (with_reducible assumption) | (with_reducible exact Two.new _ _ _ _) | (with_reducible exact two_new1 _ _ _ _ _) | (with_reducible refine Two.put (x := 0) (y := 0) ?_ _ _) | (with_reducible refine Two.drew ?_) | (with_reducible refine Two.alloc ?_ _) | (with_reducible refine two_below bq1 ?_) | (with_reducible refine two_below bq2 ?_) | (with_reducible refine two_below bq3 ?_) | (with_reducible refine two_below bq4 ?_) | (with_reducible refine Two.set ?_ (by first | omega | (simp <;> omega)) _))); done) | (trace_state; fail)
  case rest =>
    obtain ⟨T1, rfl, rfl, TA1, hT1, b1⟩ := hcut
    obtain ⟨w3, rfl⟩ : ∃ x : World, x = wc := ⟨_, rfl⟩
    have TR3 := HTR2.out.below b1 HTR2.out.2.2.2.2
    have B3 := HB2.out.trans (b1.mono HB2.out.size)
    obtain ⟨a0, a1, _, _, _⟩ := TA1
    obtain ⟨r0, r1, r2, r3, r4⟩ := TR3
    clear b1 hT1 HB2 HTR2 m0 m1 m2 hx2 hM2
    go_wp2
    refine bodyPost_ret (v := .tuple #[.agg #[.int .i64 rn, .int .i64 rd], Value.nilIface]) (by simp [results, Tryd.results37, go_sem, *, lt2, lt3, lt4, lt5, lt6]) rfl ⟨rfl, (by repeat (first | (with_reducible refine Below.drew ?_) | (with_reducible refine below_drewN ?_ _) | (with_reducible refine Below.alloc ?_ ?_ _) | (with_reducible refine Below.setCell ?_ ?_ _) | (with_reducible assumption) | (with_reducible exact Below.refl _ _) | omega | (simp <;> omega)))⟩
set_option maxRecDepth 100000 in
set_option maxHeartbeats 2000000 in
theorem iFactorOf (s l j : Int) (L : Lv s l j) (w : World) (hE : Errs w) :
    Calls Tryd.prog 13 #[.agg #[.int .i64 s, .int .i64 l, .int .i64 j]] w (Gives (roV (if j = 0 then bad else facR s l j)) w) := by
  by_cases h0 : j = 0
  · subst h0
    rw [if_pos rfl]
    unfold roV bad
    obtain ⟨t, v, hE1, hE2⟩ := hE
    have HF := Lib.hid (fun W (hB : Below w.heap.size w W) => iFactor0 s l L W t v ((hB.cell (p := ⟨1, 0, none⟩) hE2).trans hE1) (Nat.lt_of_lt_of_le hE2 hB.size))
    clear L hE1 hE2
    go_enter Tryd.func13, Tryd.ntmps13
    go_wp2_with fail
    (with_reducible refine (HF.out _ (by repeat (first | (with_reducible refine Below.drew ?_) | (with_reducible refine below_drewN ?_ _) | (with_reducible refine Below.alloc ?_ ?_ _) | (with_reducible refine Below.setCell ?_ ?_ _) | (with_reducible assumption) | (with_reducible exact Below.refl _ _) | omega | (simp <;> omega)))).mono ?_)
    rintro e w1 ⟨rfl, b1⟩
    have hz1 := b1.size
    obtain ⟨hc1, hf1⟩ := bcell b1
    have B1 : Below w.heap.size w w1 := Below.trans (by repeat (first | (with_reducible refine Below.drew ?_) | (with_reducible refine below_drewN ?_ _) | (with_reducible refine Below.alloc ?_ ?_ _) | (with_reducible refine Below.setCell ?_ ?_ _) | (with_reducible assumption) | (with_reducible exact Below.refl _ _) | omega | (simp <;> omega))) (b1.mono (by first | omega | (simp <;> omega)))
    (try simp at hz1)
    have hy1 : w.heap.size < w1.heap.size := by omega
    clear b1
    have kc1_0_1 : w1.cell? ⟨w.heap.size + 1, 0, none⟩ = some (.int .i64 0) := (hc1 (w.heap.size + 1) 0 (by first | omega | (simp <;> omega))).trans (by first | (simp; done) | (simp [*]; done) | (simp [*, World.cell?_alloc_at, World.cell?_alloc_past, World.cell?_alloc_lt, lt2, lt3, lt4]; done))
    have kc1_1_1 : w1.cell? ⟨w.heap.size + 1, 1, none⟩ = some (.int .i64 0) := (hc1 (w.heap.size + 1) 1 (by first | omega | (simp <;> omega))).trans (by first | (simp; done) | (simp [*]; done) | (simp [*, World.cell?_alloc_at, World.cell?_alloc_past, World.cell?_alloc_lt, lt2, lt3, lt4]; done))
    have kf1_0_1 : w1.frozen? ⟨w.heap.size + 1, 0, none⟩ = false := (hf1 (w.heap.size + 1) 0 (by first | omega | (simp <;> omega))).trans (by first | (simp; done) | (simp [*]; done) | (simp [*, World.frozen?_alloc_at, World.frozen?_alloc_past, lt2, lt3, lt4]; done))
    have kf1_1_1 : w1.frozen? ⟨w.heap.size + 1, 1, none⟩ = false := (hf1 (w.heap.size + 1) 1 (by first | omega | (simp <;> omega))).trans (by first | (simp; done) | (simp [*]; done) | (simp [*, World.frozen?_alloc_at, World.frozen?_alloc_past, lt2, lt3, lt4]; done))
    have hx1 : w.heap.size + 1 < w1.heap.size := by omega
    go_wp2
    refine bodyPost_ret (v := .tuple #[.agg #[.int .i64 0, .int .i64 0], .bool false]) (by simp [results, Tryd.results13, go_sem, *, lt2, lt3, lt4, lt5, lt6]) rfl ⟨rfl, (by repeat (first | (with_reducible refine Below.drew ?_) | (with_reducible refine below_drewN ?_ _) | (with_reducible refine Below.alloc ?_ ?_ _) | (with_reducible refine Below.setCell ?_ ?_ _) | (with_reducible assumption) | (with_reducible exact Below.refl _ _) | omega | (simp <;> omega)))⟩
  · rw [if_neg h0]
    have hok : (facR s l j).ok = true := by rw [L.fac]
    unfold roV
    rw [hok]
    have HF := Lib.hid (fun W => iFactor1 s l j L h0 W)
    generalize facR s l j = r at *
    obtain ⟨rn, rd, rok⟩ := r
    clear L h0 hok hE
    go_enter Tryd.func13, Tryd.ntmps13
    go_wp2_with fail
    (with_reducible refine (HF.out _).mono ?_)
    rintro e w1 ⟨rfl, b1⟩
    have hz1 := b1.size
    obtain ⟨hc1, hf1⟩ := bcell b1
    have B1 : Below w.heap.size w w1 := Below.trans (by repeat (first | (with_reducible refine Below.drew ?_) | (with_reducible refine below_drewN ?_ _) | (with_reducible refine Below.alloc ?_ ?_ _) | (with_reducible refine Below.setCell ?_ ?_ _) | (with_reducible assumption) | (with_reducible exact Below.refl _ _) | omega | (simp <;> omega))) (b1.mono (by first | omega | (simp <;> omega)))
    (try simp at hz1)
    have hy1 : w.heap.size < w1.heap.size := by omega
    clear b1
    have kc1_0_1 : w1.cell? ⟨w.heap.size + 1, 0, none⟩ = some (.int .i64 0) := (hc1 (w.heap.size + 1) 0 (by first | omega | (simp <;> omega))).trans (by first | (simp; done) | (simp [*]; done) | (simp [*, World.cell?_alloc_at, World.cell?_alloc_past, World.cell?_alloc_lt, lt2, lt3, lt4]; done))
    have kc1_1_1 : w1.cell? ⟨w.heap.size + 1, 1, none⟩ = some (.int .i64 0) := (hc1 (w.heap.size + 1) 1 (by first | omega | (simp <;> omega))).trans (by first | (simp; done) | (simp [*]; done) | (simp [*, World.cell?_alloc_at, World.cell?_alloc_past, World.cell?_alloc_lt, lt2, lt3, lt4]; done))
    have kf1_0_1 : w1.frozen? ⟨w.heap.size + 1, 0, none⟩ = false := (hf1 (w.heap.size + 1) 0 (by first | omega | (simp <;> omega))).trans (by first | (simp; done) | (simp [*]; done) | (simp [*, World.frozen?_alloc_at, World.frozen?_alloc_past, lt2, lt3, lt4]; done))
    have kf1_1_1 : w1.frozen? ⟨w.heap.size + 1, 1, none⟩ = false := (hf1 (w.heap.size + 1) 1 (by first | omega | (simp <;> omega))).trans (by first | (simp; done) | (simp [*]; done) | (simp [*, World.frozen?_alloc_at, World.frozen?_alloc_past, lt2, lt3, lt4]; done))
    have hx1 : w.heap.size + 1 < w1.heap.size := by omega
    go_wp2
    refine bodyPost_ret (v := .tuple #[.agg #[.int .i64 rn, .int .i64 rd], .bool true]) (by simp [results, Tryd.results13, go_sem, *, lt2, lt3, lt4, lt5, lt6]) rfl ⟨rfl, (by repeat (first | (with_reducible refine Below.drew ?_) | (with_reducible refine below_drewN ?_ _) | (with_reducible refine Below.alloc ?_ ?_ _) | (with_reducible refine Below.setCell ?_ ?_ _) | (with_reducible assumption) | (with_reducible exact Below.refl _ _) | omega | (simp <;> omega)))⟩
set_option maxRecDepth 100000 in
set_option maxHeartbeats 2000000 in
theorem iFacZ (s l j : Int) (L : Lv s l j) (w : World) (hE : Errs w) :
    Calls Tryd.prog 27 #[.agg #[.int .i64 s, .int .i64 l, .int .i64 j]] w (Gives (.agg #[.int .i64 (facR s l j).n, .int .i64 (facR s l j).d]) w) := by
  have hlt : 1 < w.heap.size := by obtain ⟨_, _, _, h⟩ := hE; exact h
  have hF := fun W (hB : Below w.heap.size w W) => iFactorOf s l j L W (hE.below hB hlt)
  by_cases h0 : j = 0
  · subst h0
    simp only [↓reduceIte] at hF
    rw [fac_zero]
    unfold roV bad at hF
    have HF := Lib.hid hF
    have HW := Lib.hid (fun W => iwhole 0 W)
    clear hF L hE hlt
    go_enter Tryd.func27, Tryd.ntmps27
    go_wp2_with fail
    (with_reducible refine (HF.out _ (by repeat (first | (with_reducible refine Below.drew ?_) | (with_reducible refine below_drewN ?_ _) | (with_reducible refine Below.alloc ?_ ?_ _) | (with_reducible refine Below.setCell ?_ ?_ _) | (with_reducible assumption) | (with_reducible exact Below.refl _ _) | omega | (simp <;> omega)))).mono ?_)
    rintro e w1 ⟨rfl, b1⟩
    have hz1 := b1.size
    obtain ⟨hc1, hf1⟩ := bcell b1
    have B1 : Below w.heap.size w w1 := Below.trans (by repeat (first | (with_reducible refine Below.drew ?_) | (with_reducible refine below_drewN ?_ _) | (with_reducible refine Below.alloc ?_ ?_ _) | (with_reducible refine Below.setCell ?_ ?_ _) | (with_reducible assumption) | (with_reducible exact Below.refl _ _) | omega | (simp <;> omega))) (b1.mono (by first | omega | (simp <;> omega)))
    (try simp at hz1)
    have hy1 : w.heap.size < w1.heap.size := by omega
    clear b1
    have kc1_0_1 : w1.cell? ⟨w.heap.size + 1, 0, none⟩ = some (.int .i64 0) := (hc1 (w.heap.size + 1) 0 (by first | omega | (simp <;> omega))).trans (by first | (simp; done) | (simp [*]; done) | (simp [*, World.cell?_alloc_at, World.cell?_alloc_past, World.cell?_alloc_lt, lt2, lt3, lt4]; done))
    have kc1_1_1 : w1.cell? ⟨w.heap.size + 1, 1, none⟩ = some (.int .i64 0) := (hc1 (w.heap.size + 1) 1 (by first | omega | (simp <;> omega))).trans (by first | (simp; done) | (simp [*]; done) | (simp [*, World.cell?_alloc_at, World.cell?_alloc_past, World.cell?_alloc_lt, lt2, lt3, lt4]; done))
    have kf1_0_1 : w1.frozen? ⟨w.heap.size + 1, 0, none⟩ = false := (hf1 (w.heap.size + 1) 0 (by first | omega | (simp <;> omega))).trans (by first | (simp; done) | (simp [*]; done) | (simp [*, World.frozen?_alloc_at, World.frozen?_alloc_past, lt2, lt3, lt4]; done))
    have kf1_1_1 : w1.frozen? ⟨w.heap.size + 1, 1, none⟩ = false := (hf1 (w.heap.size + 1) 1 (by first | omega | (simp <;> omega))).trans (by first | (simp; done) | (simp [*]; done) | (simp [*, World.frozen?_alloc_at, World.frozen?_alloc_past, lt2, lt3, lt4]; done))
    have hx1 : w.heap.size + 1 < w1.heap.size := by omega
    go_wp2_with fail
    (with_reducible refine (HW.out _).mono ?_)
    rintro e w2 ⟨rfl, b2⟩
    have hz2 := b2.size
    obtain ⟨hc2, hf2⟩ := bcell b2
    have B2 : Below w.heap.size w w2 := Below.trans (by repeat (first | (with_reducible refine Below.drew ?_) | (with_reducible refine below_drewN ?_ _) | (with_reducible refine Below.alloc ?_ ?_ _) | (with_reducible refine Below.setCell ?_ ?_ _) | (with_reducible assumption) | (with_reducible exact Below.refl _ _) | omega | (simp <;> omega))) (b2.mono (by first | omega | (simp <;> omega)))
    (try simp at hz2)
    have hy2 : w.heap.size < w2.heap.size := by omega
    clear b2
    have kc2_0_1 : w2.cell? ⟨w.heap.size + 1, 0, none⟩ = some (.int .i64 0) := (hc2 (w.heap.size + 1) 0 (by first | omega | (simp <;> omega))).trans (by first | (simp; done) | (simp [*]; done) | (simp [*, World.cell?_alloc_at, World.cell?_alloc_past, World.cell?_alloc_lt, lt2, lt3, lt4]; done))
    have kc2_1_1 : w2.cell? ⟨w.heap.size + 1, 1, none⟩ = some (.int .i64 0) := (hc2 (w.heap.size + 1) 1 (by first | omega | (simp <;> omega))).trans (by first | (simp; done) | (simp [*]; done) | (simp [*, World.cell?_alloc_at, World.cell?_alloc_past, World.cell?_alloc_lt, lt2, lt3, lt4]; done))
    have kf2_0_1 : w2.frozen? ⟨w.heap.size + 1, 0, none⟩ = false := (hf2 (w.heap.size + 1) 0 (by first | omega | (simp <;> omega))).trans (by first | (simp; done) | (simp [*]; done) | (simp [*, World.frozen?_alloc_at, World.frozen?_alloc_past, lt2, lt3, lt4]; done))
    have kf2_1_1 : w2.frozen? ⟨w.heap.size + 1, 1, none⟩ = false := (hf2 (w.heap.size + 1) 1 (by first | omega | (simp <;> omega))).trans (by first | (simp; done) | (simp [*]; done) | (simp [*, World.frozen?_alloc_at, World.frozen?_alloc_past, lt2, lt3, lt4]; done))
    go_wp2
    refine bodyPost_ret (v := .agg #[.int .i64 0, .int .i64 1]) (by simp [results, Tryd.results27, go_sem, *, lt2, lt3, lt4, lt5, lt6]) rfl ⟨rfl, (by repeat (first | (with_reducible refine Below.drew ?_) | (with_reducible refine below_drewN ?_ _) | (with_reducible refine Below.alloc ?_ ?_ _) | (with_reducible refine Below.setCell ?_ ?_ _) | (with_reducible assumption) | (with_reducible exact Below.refl _ _) | omega | (simp <;> omega)))⟩
  · simp only [if_neg h0] at hF
    have hok : (facR s l j).ok = true := by rw [L.fac]
    unfold roV at hF
    rw [hok] at hF
    generalize facR s l j = r at *
    obtain ⟨rn, rd, rok⟩ := r
    have HF := Lib.hid hF
    clear hF L h0 hok hE hlt
    go_enter Tryd.func27, Tryd.ntmps27
    go_wp2_with fail
    (with_reducible refine (HF.out _ (by repeat (first | (with_reducible refine Below.drew ?_) | (with_reducible refine below_drewN ?_ _) | (with_reducible refine Below.alloc ?_ ?_ _) | (with_reducible refine Below.setCell ?_ ?_ _) | (with_reducible assumption) | (with_reducible exact Below.refl _ _) | omega | (simp <;> omega)))).mono ?_)
    rintro e w1 ⟨rfl, b1⟩
    have hz1 := b1.size
    obtain ⟨hc1, hf1⟩ := bcell b1
    have B1 : Below w.heap.size w w1 := Below.trans (by repeat (first | (with_reducible refine Below.drew ?_) | (with_reducible refine below_drewN ?_ _) | (with_reducible refine Below.alloc ?_ ?_ _) | (with_reducible refine Below.setCell ?_ ?_ _) | (with_reducible assumption) | (with_reducible exact Below.refl _ _) | omega | (simp <;> omega))) (b1.mono (by first | omega | (simp <;> omega)))
    (try simp at hz1)
    have hy1 : w.heap.size < w1.heap.size := by omega
    clear b1
    have kc1_0_1 : w1.cell? ⟨w.heap.size + 1, 0, none⟩ = some (.int .i64 0) := (hc1 (w.heap.size + 1) 0 (by first | omega | (simp <;> omega))).trans (by first | (simp; done) | (simp [*]; done) | (simp [*, World.cell?_alloc_at, World.cell?_alloc_past, World.cell?_alloc_lt, lt2, lt3, lt4]; done))
    have kc1_1_1 : w1.cell? ⟨w.heap.size + 1, 1, none⟩ = some (.int .i64 0) := (hc1 (w.heap.size + 1) 1 (by first | omega | (simp <;> omega))).trans (by first | (simp; done) | (simp [*]; done) | (simp [*, World.cell?_alloc_at, World.cell?_alloc_past, World.cell?_alloc_lt, lt2, lt3, lt4]; done))
    have kf1_0_1 : w1.frozen? ⟨w.heap.size + 1, 0, none⟩ = false := (hf1 (w.heap.size + 1) 0 (by first | omega | (simp <;> omega))).trans (by first | (simp; done) | (simp [*]; done) | (simp [*, World.frozen?_alloc_at, World.frozen?_alloc_past, lt2, lt3, lt4]; done))
    have kf1_1_1 : w1.frozen? ⟨w.heap.size + 1, 1, none⟩ = false := (hf1 (w.heap.size + 1) 1 (by first | omega | (simp <;> omega))).trans (by first | (simp; done) | (simp [*]; done) | (simp [*, World.frozen?_alloc_at, World.frozen?_alloc_past, lt2, lt3, lt4]; done))
    have hx1 : w.heap.size + 1 < w1.heap.size := by omega
    go_wp2
    refine bodyPost_ret (v := .agg #[.int .i64 rn, .int .i64 rd]) (by simp [results, Tryd.results27, go_sem, *, lt2, lt3, lt4, lt5, lt6]) rfl ⟨rfl, (by repeat (first | (with_reducible refine Below.drew ?_) | (with_reducible refine below_drewN ?_ _) | (with_reducible refine Below.alloc ?_ ?_ _) | (with_reducible refine Below.setCell ?_ ?_ _) | (with_reducible assumption) | (with_reducible exact Below.refl _ _) | omega | (simp <;> omega)))⟩
end Go.Proofs.YtpollgibgphipaaDoor.FacI
